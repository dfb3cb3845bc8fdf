/- Contracts: a club's copy; the change of two ratings by a result (program and reference). -/
import Derived.Test.YtpodkgfapbcmlaaResC
import Derived.Test.YtpodkgfapbcmlaaGain
import Derived.Test.YtpodkgfapbcmlaaRow
import Derived.WalkSpells
import Derived.Laws.AppendOwnNone
namespace Go.Proofs.Ytpodkgfapbcmlaa
open Go.ChangeShapes Go.WideShapes Go.ChangeAt Go.RowKit Go.Sort

/-- a slice's copy in new memory -/
def CopyPost {α : Type} (w : World) (e : TypeId) (sz : Nat) (enc : α → List Value) (xs : List α) (en : Ending) (w' : World) : Prop :=
  ∃ (a : Option Addr) (cap : Nat), en = .returned (.slice a xs.length cap) ∧ w'.ownsRow w.heap.size e sz (.slice a xs.length cap) xs.length (xs.flatMap enc) ∧ Below w.heap.size w w'
theorem mem_oneCell (ms : List Mem) : ∀ u ∈ ms.flatMap Mem.enc, u.oneCell' = true := by
  intro u hu
  obtain ⟨m, _, hm⟩ := List.mem_flatMap.1 hu
  simp only [Mem.enc, List.mem_cons, List.not_mem_nil, or_false] at hm
  rcases hm with rfl | rfl <;> rfl

set_option maxHeartbeats 1000000 in
theorem cloneMem_any (ms : List Mem) (a : Option Addr) (cap : Nat) (w : World) (hm : SliceAt w 2 Mem.enc a ms) (hl : ms.length ≤ 1048576) (hnil : a = none → ms = []) :
    Calls Try.prog 67 #[.slice a ms.length cap] w (CopyPost w 56 2 Mem.enc ms) := by
  have hq := fun wx => Lib.run_eql_slice_nil (P := Try.prog) wx 28 56 a ms.length cap 0 0 Try.underlying28
  obtain ⟨i0, hi, hz0, hz1, hz2⟩ := info_parts infoMember
  cases a with
  | none =>
    obtain rfl : ms = [] := hnil rfl
    clear hnil
    have hq' : ∀ wx, (binOp .eql 28 (.slice none 0 cap) (.slice none 0 0)).run Try.prog wx = .ok (.bool true) wx := hq
    clear hq hi hz0 hz1 hz2 hm hl
    go_enter Try.func67, Try.ntmps67
    go_wp2
    go_ret
    exact ⟨none, 0, rfl, by simpa using World.ownsRow_nil w w.heap.size 56 2, Below.refl _ _⟩
  | some ad =>
    have hq' : ∀ wx, (binOp .eql 28 (.slice (some ad) ms.length cap) (.slice none 0 0)).run Try.prog wx = .ok (.bool false) wx := hq
    clear hq hnil
    have hnews : ∀ j u, (ms.flatMap Mem.enc)[j]? = some u → (w.alloc (.cells #[] 56)).cell? (ad.add j) = some u := by
      intro j u hj
      rcases hm with rfl | ⟨b, off, hab, hc⟩
      · simp at hj
      · simp only [Option.some.injEq] at hab
        subst hab
        exact cell_alloc (cellsAt_row Mem.enc_len (by decide) hc j u hj) _
    have hown := World.ownsRow_made (base := w.heap.size) (e := 56) (size := 2) w #[] 0 (Nat.le_refl _) (by unfold maxLen; omega) rfl
    have HN := Lib.hid hnews
    have HO := Lib.hid hown
    have hfl : (ms.flatMap Mem.enc).length = ms.length * 2 := flatMap_len Mem.enc_len ms
    have HFL := Lib.hid hfl
    clear hnews hown hfl hm
    go_enter Try.func67, Try.ntmps67
    go_wp2_with (at_builtin; refine wpList_append_own _ rfl (.tmp 5) (.tmp 6) 28 rfl w.heap.size 56 i0 _ 2 24 Try.underlying28 hi hz0 hz1 hz2 rfl (by decide) _ 0 [] rfl HO.out ad ms.length cap (ms.flatMap Mem.enc) rfl HFL.out HN.out (mem_oneCell ms) ?c1 ?c2 ?c3 ?_)
    case c1 => unfold maxLen; omega
    case c2 => omega
    case c3 => simp
    intro v' w2 hown2 hgr _
    obtain ⟨a', cap', hv⟩ := own_shape hown2
    rw [hv] at hown2
    rw [hv]
    have HO2 := Lib.hid hown2
    have hb2 : Below w.heap.size w w2 := below_grown ((Below.refl w.heap.size w).alloc (Nat.le_refl _) (.cells #[] 56)) (by simp) hgr (Nat.le_refl _)
    clear hown2 hgr hv
    go_wp2
    go_ret
    exact ⟨a', cap', rfl, HO2.out, hb2⟩

theorem mem_set {ms : List Mem} {i : Nat} (hi : i < ms.length) (x : Int) : (ms.flatMap Mem.enc).set (i * 2 + 1) (.int .i64 x) = (ms.set i ⟨ms[i].name, x⟩).flatMap Mem.enc :=
  flatMap_set Mem.enc_len ms hi (by decide) _ ⟨ms[i].name, x⟩ rfl
/-- the members after a result: those at i and j, by x -/
def moved (ms : List Mem) (i j : Nat) (x : Int) : List Mem :=
  let a := ms.set i ⟨(ms.getD i ⟨⟨#[]⟩, 0⟩).name, (ms.getD i ⟨⟨#[]⟩, 0⟩).rating + x⟩
  a.set j ⟨(a.getD j ⟨⟨#[]⟩, 0⟩).name, (a.getD j ⟨⟨#[]⟩, 0⟩).rating - x⟩
theorem getD_of {ms : List Mem} {i : Nat} (hi : i < ms.length) (d : Mem) : ms.getD i d = ms[i] := by
  rw [List.getD_eq_getElem?_getD, List.getElem?_eq_getElem hi]
  rfl
def rateOf (ms : List Mem) (r : Res) : List Mem × Int :=
  if r.b.toList.isEmpty = true then (ms, 0)
  else
    let i := (findMem r.a ms).toNat
    let j := (findMem r.b ms).toNat
    let x := gain (ms.getD i ⟨⟨#[]⟩, 0⟩).rating (ms.getD j ⟨⟨#[]⟩, 0⟩).rating r.sa r.sb
    (moved ms i j x, x)
def RatingsOk (ms : List Mem) : Prop := ∀ m ∈ ms, 0 ≤ m.rating ∧ m.rating ≤ 4000
theorem ratings_of {ms : List Mem} (h : clubOk ms = true) : RatingsOk ms := by
  intro m hm
  obtain ⟨i, hi, rfl⟩ := List.getElem_of_mem hm
  simp only [clubOk, Bool.and_eq_true, List.all_eq_true, List.mem_range] at h
  have := h.2 i hi
  have hmo : memOk ms[i] = true := by
    by_cases h0 : i = 0
    · subst h0; rwa [okAt_zero hi] at this
    · rw [okAt_succ hi (by omega), Bool.and_eq_true] at this
      exact this.1
  simp only [memOk, withinB, Bool.and_eq_true, decide_eq_true_eq] at hmo
  exact hmo.2
theorem RatingsOk.at {ms : List Mem} (h : RatingsOk ms) {i : Nat} (hi : i < ms.length) : 0 ≤ ms[i].rating ∧ ms[i].rating ≤ 4000 := h _ (List.getElem_mem hi)
/-- what is known of a result of members -/
theorem known_game {ms : List Mem} {r : Res} (hk : known ms r = true) (hb : r.b.toList.isEmpty = false) : ∃ i j : Nat, findMem r.a ms = i ∧ i < ms.length ∧ findMem r.b ms = j ∧ j < ms.length := by
  unfold known at hk
  rw [hb] at hk
  simp at hk
  rcases findMem_bound r.a ms with h | ⟨h1, h2⟩
  · omega
  · rcases findMem_bound r.b ms with h' | ⟨h3, h4⟩
    · omega
    · exact ⟨(findMem r.a ms).toNat, (findMem r.b ms).toNat, by omega, by omega, by omega, by omega⟩
theorem scores_game {r : Res} (h : resOk r = true) (hb : r.b.toList.isEmpty = false) : -2000 ≤ r.sa ∧ r.sa ≤ 2000 ∧ -2000 ≤ r.sb ∧ r.sb ≤ 2000 ∧ ¬ r.a.toList = r.b.toList := by
  rw [resOk_game hb] at h
  simp [withinB] at h
  exact ⟨by omega, by omega, by omega, by omega, fun e => by simp [e] at h⟩
theorem findFrom_name (nm : ByteArray) (ms : List Mem) (k i : Nat) (hi : i < ms.length) (h : findFrom nm ms k = (k + i : Nat)) : ms[i].name.toList = nm.toList := by
  induction ms generalizing k i with
  | nil => simp at hi
  | cons m ms ih =>
    unfold findFrom at h
    split at h
    · have : i = 0 := by omega
      subst this
      rename_i he
      simpa using he
    · have hb := findFrom_bound nm ms (k + 1)
      cases i with
      | zero => omega
      | succ i => exact ih (k + 1) i (by simpa using hi) (by rw [h]; congr 1; omega)
theorem findMem_name {nm : ByteArray} {ms : List Mem} {i : Nat} (hi : i < ms.length) (h : findMem nm ms = i) : ms[i].name.toList = nm.toList := findFrom_name nm ms 0 i hi (by rw [Nat.zero_add]; exact h)
end Go.Proofs.Ytpodkgfapbcmlaa
