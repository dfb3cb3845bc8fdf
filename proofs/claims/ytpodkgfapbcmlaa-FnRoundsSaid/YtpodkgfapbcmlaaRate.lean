/- Contracts: a club's copy; the change of two ratings by a result (program and reference). · Contract: the program's rate (it changes two ratings in a club's own memory). · Contract: the reference's l26Rate (a club's copy with two ratings changed). · Contracts: RateResult (program and reference). -/
import Derived.Test.YtpodkgfapbcmlaaRes
import Derived.Test.YtpodkgfapbcmlaaGain
import Derived.Test.YtpodkgfapbcmlaaRow
import Derived.WalkSpells
import Derived.Laws.AppendOwnNone
namespace Go.Proofs.Ytpodkgfapbcmlaa
open Go.ChangeShapes Go.WideShapes Go.ChangeAt Go.RowKit Go.Sort

/-- a slice's copy in new memory -/
def CopyPost {α : Type} (w : World) (e : TypeId) (sz : Nat) (enc : α → List Value) (xs : List α) (en : Ending) (w' : World) : Prop :=
  ∃ (a : Option Addr) (cap : Nat), en = .returned (.slice a xs.length cap) ∧ w'.ownsRow w.heap.size e sz (.slice a xs.length cap) xs.length (xs.flatMap enc) ∧ Below w.heap.size w w'
theorem mem_oneCell (ms : List Mem) : ∀ u ∈ ms.flatMap Mem.enc, u.oneCell' = true := by
  intro u hu
  obtain ⟨m, _, hm⟩ := List.mem_flatMap.1 hu
  simp only [Mem.enc, List.mem_cons, List.not_mem_nil, or_false] at hm
  rcases hm with rfl | rfl <;> rfl

set_option maxHeartbeats 1000000 in
theorem cloneMem_any (ms : List Mem) (a : Option Addr) (cap : Nat) (w : World) (hm : SliceAt w 2 Mem.enc a ms) (hl : ms.length ≤ 1048576) (hnil : a = none → ms = []) :
    Calls Try.prog 67 #[.slice a ms.length cap] w (CopyPost w 56 2 Mem.enc ms) := by
  have hq := fun wx => Lib.run_eql_slice_nil (P := Try.prog) wx 28 56 a ms.length cap 0 0 Try.underlying28
  obtain ⟨i0, hi, hz0, hz1, hz2⟩ := info_parts infoMember
  cases a with
  | none =>
    obtain rfl : ms = [] := hnil rfl
    clear hnil
    have hq' : ∀ wx, (binOp .eql 28 (.slice none 0 cap) (.slice none 0 0)).run Try.prog wx = .ok (.bool true) wx := hq
    clear hq hi hz0 hz1 hz2 hm hl
    go_enter Try.func67, Try.ntmps67
    go_wp2
    go_ret
    exact ⟨none, 0, rfl, by simpa using World.ownsRow_nil w w.heap.size 56 2, Below.refl _ _⟩
  | some ad =>
    have hq' : ∀ wx, (binOp .eql 28 (.slice (some ad) ms.length cap) (.slice none 0 0)).run Try.prog wx = .ok (.bool false) wx := hq
    clear hq hnil
    have hnews : ∀ j u, (ms.flatMap Mem.enc)[j]? = some u → (w.alloc (.cells #[] 56)).cell? (ad.add j) = some u := by
      intro j u hj
      rcases hm with rfl | ⟨b, off, hab, hc⟩
      · simp at hj
      · simp only [Option.some.injEq] at hab
        subst hab
        exact cell_alloc (cellsAt_row Mem.enc_len (by decide) hc j u hj) _
    have hown := World.ownsRow_made (base := w.heap.size) (e := 56) (size := 2) w #[] 0 (Nat.le_refl _) (by unfold maxLen; omega) rfl
    have HN := Lib.hid hnews
    have HO := Lib.hid hown
    have hfl : (ms.flatMap Mem.enc).length = ms.length * 2 := flatMap_len Mem.enc_len ms
    have HFL := Lib.hid hfl
    clear hnews hown hfl hm
    go_enter Try.func67, Try.ntmps67
    go_wp2_with (at_builtin; refine wpList_append_own _ rfl (.tmp 5) (.tmp 6) 28 rfl w.heap.size 56 i0 _ 2 24 Try.underlying28 hi hz0 hz1 hz2 rfl (by decide) _ 0 [] rfl HO.out ad ms.length cap (ms.flatMap Mem.enc) rfl HFL.out HN.out (mem_oneCell ms) ?c1 ?c2 ?c3 ?_)
    case c1 => unfold maxLen; omega
    case c2 => omega
    case c3 => simp
    intro v' w2 hown2 hgr _
    obtain ⟨a', cap', hv⟩ := own_shape hown2
    rw [hv] at hown2
    rw [hv]
    have HO2 := Lib.hid hown2
    have hb2 : Below w.heap.size w w2 := below_grown ((Below.refl w.heap.size w).alloc (Nat.le_refl _) (.cells #[] 56)) (by simp) hgr (Nat.le_refl _)
    clear hown2 hgr hv
    go_wp2
    go_ret
    exact ⟨a', cap', rfl, HO2.out, hb2⟩

theorem mem_set {ms : List Mem} {i : Nat} (hi : i < ms.length) (x : Int) : (ms.flatMap Mem.enc).set (i * 2 + 1) (.int .i64 x) = (ms.set i ⟨ms[i].name, x⟩).flatMap Mem.enc :=
  flatMap_set Mem.enc_len ms hi (by decide) _ ⟨ms[i].name, x⟩ rfl
/-- the members after a result: those at i and j, by x -/
def moved (ms : List Mem) (i j : Nat) (x : Int) : List Mem :=
  let a := ms.set i ⟨(ms.getD i ⟨⟨#[]⟩, 0⟩).name, (ms.getD i ⟨⟨#[]⟩, 0⟩).rating + x⟩
  a.set j ⟨(a.getD j ⟨⟨#[]⟩, 0⟩).name, (a.getD j ⟨⟨#[]⟩, 0⟩).rating - x⟩
theorem getD_of {ms : List Mem} {i : Nat} (hi : i < ms.length) (d : Mem) : ms.getD i d = ms[i] := by
  rw [List.getD_eq_getElem?_getD, List.getElem?_eq_getElem hi]
  rfl
def rateOf (ms : List Mem) (r : Res) : List Mem × Int :=
  if r.b.toList.isEmpty = true then (ms, 0)
  else
    let i := (findMem r.a ms).toNat
    let j := (findMem r.b ms).toNat
    let x := gain (ms.getD i ⟨⟨#[]⟩, 0⟩).rating (ms.getD j ⟨⟨#[]⟩, 0⟩).rating r.sa r.sb
    (moved ms i j x, x)
def RatingsOk (ms : List Mem) : Prop := ∀ m ∈ ms, 0 ≤ m.rating ∧ m.rating ≤ 4000
theorem ratings_of {ms : List Mem} (h : clubOk ms = true) : RatingsOk ms := by
  intro m hm
  obtain ⟨i, hi, rfl⟩ := List.getElem_of_mem hm
  simp only [clubOk, Bool.and_eq_true, List.all_eq_true, List.mem_range] at h
  have := h.2 i hi
  have hmo : memOk ms[i] = true := by
    by_cases h0 : i = 0
    · subst h0; rwa [okAt_zero hi] at this
    · rw [okAt_succ hi (by omega), Bool.and_eq_true] at this
      exact this.1
  simp only [memOk, withinB, Bool.and_eq_true, decide_eq_true_eq] at hmo
  exact hmo.2
theorem RatingsOk.at {ms : List Mem} (h : RatingsOk ms) {i : Nat} (hi : i < ms.length) : 0 ≤ ms[i].rating ∧ ms[i].rating ≤ 4000 := h _ (List.getElem_mem hi)
/-- what is known of a result of members -/
theorem known_game {ms : List Mem} {r : Res} (hk : known ms r = true) (hb : r.b.toList.isEmpty = false) : ∃ i j : Nat, findMem r.a ms = i ∧ i < ms.length ∧ findMem r.b ms = j ∧ j < ms.length := by
  unfold known at hk
  rw [hb] at hk
  simp at hk
  rcases findMem_bound r.a ms with h | ⟨h1, h2⟩
  · omega
  · rcases findMem_bound r.b ms with h' | ⟨h3, h4⟩
    · omega
    · exact ⟨(findMem r.a ms).toNat, (findMem r.b ms).toNat, by omega, by omega, by omega, by omega⟩
theorem scores_game {r : Res} (h : resOk r = true) (hb : r.b.toList.isEmpty = false) : -2000 ≤ r.sa ∧ r.sa ≤ 2000 ∧ -2000 ≤ r.sb ∧ r.sb ≤ 2000 ∧ ¬ r.a.toList = r.b.toList := by
  rw [resOk_game hb] at h
  simp [withinB] at h
  exact ⟨by omega, by omega, by omega, by omega, fun e => by simp [e] at h⟩
theorem findFrom_name (nm : ByteArray) (ms : List Mem) (k i : Nat) (hi : i < ms.length) (h : findFrom nm ms k = (k + i : Nat)) : ms[i].name.toList = nm.toList := by
  induction ms generalizing k i with
  | nil => simp at hi
  | cons m ms ih =>
    unfold findFrom at h
    split at h
    · have : i = 0 := by omega
      subst this
      rename_i he
      simpa using he
    · have hb := findFrom_bound nm ms (k + 1)
      cases i with
      | zero => omega
      | succ i => exact ih (k + 1) i (by simpa using hi) (by rw [h]; congr 1; omega)
theorem findMem_name {nm : ByteArray} {ms : List Mem} {i : Nat} (hi : i < ms.length) (h : findMem nm ms = i) : ms[i].name.toList = nm.toList := findFrom_name nm ms 0 i hi (by rw [Nat.zero_add]; exact h)
end Go.Proofs.Ytpodkgfapbcmlaa

namespace Go.Proofs.Ytpodkgfapbcmlaa
open Go.ChangeShapes Go.WideShapes Go.ChangeAt Go.RowKit Go.Sort

/-- a row of members that may have been written, and nothing else -/
def RatedPost (w : World) (base : Nat) (v : Value) (n : Nat) (p : List Mem × Int) (en : Ending) (w' : World) : Prop :=
  en = .returned (.int .i64 p.2) ∧ w'.ownsRow base 56 2 v n (p.1.flatMap Mem.enc) ∧ w.grownBy w' v.ownBlock
theorem rateOf_bye {ms : List Mem} {r : Res} (h : r.b.toList.isEmpty = true) : rateOf ms r = (ms, 0) := by unfold rateOf; rw [if_pos h]
theorem rateOf_game {ms : List Mem} {r : Res} (h : r.b.toList.isEmpty = false) {i j : Nat} (hi : i < ms.length) (hj : j < ms.length) (h1 : findMem r.a ms = i) (h2 : findMem r.b ms = j) (hne : i ≠ j) :
    rateOf ms r = ((ms.set i ⟨ms[i].name, ms[i].rating + gain ms[i].rating ms[j].rating r.sa r.sb⟩).set j ⟨ms[j].name, ms[j].rating - gain ms[i].rating ms[j].rating r.sa r.sb⟩, gain ms[i].rating ms[j].rating r.sa r.sb) := by
  unfold rateOf
  rw [if_neg (by rw [h]; exact Bool.false_ne_true)]
  simp only [h1, h2, Int.toNat_natCast, moved, getD_of hi, getD_of hj]
  rw [getD_of (by simpa using hj), List.getElem_set_ne hne]
theorem ne_of_names {ms : List Mem} {r : Res} {i j : Nat} (hi : i < ms.length) (hj : j < ms.length) (h1 : findMem r.a ms = i) (h2 : findMem r.b ms = j) (hab : ¬ r.a.toList = r.b.toList) : i ≠ j := fun e => by
  subst e
  exact hab ((findMem_name hi h1).symm.trans (findMem_name hj h2))

set_option maxHeartbeats 4000000 in
theorem rate_any (ms : List Mem) (r : Res) (a : Option Addr) (cap base : Nat) (w : World) (ho : w.ownsRow base 56 2 (.slice a ms.length cap) ms.length (ms.flatMap Mem.enc)) (hl : ms.length ≤ 1048576) (hok : resOk r = true) (hk : known ms r = true) (hrt : RatingsOk ms) :
    Calls Try.prog 68 #[.agg #[.slice a ms.length cap], .agg #[.string r.a, .string r.b, .int .i64 r.sa, .int .i64 r.sb]] w (RatedPost w base (.slice a ms.length cap) ms.length (rateOf ms r)) := by
  have HO := Lib.hid ho; clear ho
  cases hbe : r.b.toList.isEmpty with
  | true =>
    have hbn : r.b.toList = [] := List.isEmpty_iff.1 hbe
    have HR := Lib.hid (rateOf_bye (ms := ms) hbe)
    have hb0 : Below w.heap.size w ((w.alloc (.cells #[.slice a ms.length cap] 30)).alloc (.cells #[.string r.a, .string r.b, .int .i64 r.sa, .int .i64 r.sb] 39)) := ((Below.refl _ _).alloc (Nat.le_refl _) _).alloc (by simp) _
    clear hok hk hrt
    go_enter Try.func68, Try.ntmps68
    go_wp2
    go_ret
    rw [HR.out]
    exact ⟨rfl, own_below HO.out hb0, grown_of_below hb0⟩
  | false =>
    obtain ⟨i, j, h1, hi, h2, hj⟩ := known_game hk hbe
    obtain ⟨s0, s1, s2, s3, hab⟩ := scores_game hok hbe
    have hne := ne_of_names hi hj h1 h2 hab
    have HR := Lib.hid (rateOf_game hbe hi hj h1 h2 hne)
    have hbn : ¬ r.b.toList = [] := fun e => by rw [e] at hbe; simp at hbe
    obtain ⟨ra0, ra1⟩ := hrt.at hi
    obtain ⟨rb0, rb1⟩ := hrt.at hj
    obtain ⟨g0, g1, g2, g3⟩ := gain_bd ms[i].rating ms[j].rating r.sa r.sb ra0 ra1 rb0 rb1
    obtain ⟨g, rfl⟩ : ∃ g, a = some ⟨g, 0, none⟩ := by
      rcases HO.out.2 with ⟨_, h⟩ | ⟨g, _, _, h, _⟩
      · omega
      · simp only [Value.slice.injEq] at h
        exact ⟨g, h.1⟩
    have hb0 : Below w.heap.size w ((w.alloc (.cells #[.slice (some ⟨g, 0, none⟩) ms.length cap] 30)).alloc (.cells #[.string r.a, .string r.b, .int .i64 r.sa, .int .i64 r.sb] 39)) := ((Below.refl _ _).alloc (Nat.le_refl _) _).alloc (by simp) _
    have q1 := cell_regrown (cell_alloc (cell_new0 w #[.slice (some ⟨g, 0, none⟩) ms.length cap] 30 (i := 0) (v := .slice (some ⟨g, 0, none⟩) ms.length cap) rfl) (.cells #[.string r.a, .string r.b, .int .i64 r.sa, .int .i64 r.sb] 39))
    have q2 := cell_regrown (cell_new0 (w.alloc (.cells #[.slice (some ⟨g, 0, none⟩) ms.length cap] 30)) #[.string r.a, .string r.b, .int .i64 r.sa, .int .i64 r.sb] 39 (i := 0) (v := .string r.a) rfl)
    have q3 := cell_regrown (cell_new0 (w.alloc (.cells #[.slice (some ⟨g, 0, none⟩) ms.length cap] 30)) #[.string r.a, .string r.b, .int .i64 r.sa, .int .i64 r.sb] 39 (i := 1) (v := .string r.b) rfl)
    simp only [World.size_alloc] at q2 q3
    have M0 := Lib.hid (own_slice Mem.enc_len HO.out rfl)
    have k1 := fun wx (hwx : SliceAt wx 2 Mem.enc (some ⟨g, 0, none⟩) ms) => member_any ms r.a _ cap wx hwx (by omega)
    have k2 := fun wx (hwx : SliceAt wx 2 Mem.enc (some ⟨g, 0, none⟩) ms) => member_any ms r.b _ cap wx hwx (by omega)
    simp only [h1] at k1
    simp only [h2] at k2
    have K1 := Lib.hid k1; clear k1
    have K2 := Lib.hid k2; clear k2
    have c1 := cell_alloc (cell_new0 w #[.slice (some ⟨g, 0, none⟩) ms.length cap] 30 (i := 0) (v := .slice (some ⟨g, 0, none⟩) ms.length cap) rfl) (.cells #[.string r.a, .string r.b, .int .i64 r.sa, .int .i64 r.sb] 39)
    have d0 := cell_new0 (w.alloc (.cells #[.slice (some ⟨g, 0, none⟩) ms.length cap] 30)) #[.string r.a, .string r.b, .int .i64 r.sa, .int .i64 r.sb] 39 (i := 0) (v := .string r.a) rfl
    have d1 := cell_new0 (w.alloc (.cells #[.slice (some ⟨g, 0, none⟩) ms.length cap] 30)) #[.string r.a, .string r.b, .int .i64 r.sa, .int .i64 r.sb] 39 (i := 1) (v := .string r.b) rfl
    have d2 := cell_new0 (w.alloc (.cells #[.slice (some ⟨g, 0, none⟩) ms.length cap] 30)) #[.string r.a, .string r.b, .int .i64 r.sa, .int .i64 r.sb] 39 (i := 2) (v := .int .i64 r.sa) rfl
    have d3 := cell_new0 (w.alloc (.cells #[.slice (some ⟨g, 0, none⟩) ms.length cap] 30)) #[.string r.a, .string r.b, .int .i64 r.sa, .int .i64 r.sb] 39 (i := 3) (v := .int .i64 r.sb) rfl
    simp only [World.size_alloc] at d0 d1 d2 d3
    have HN := Lib.hid hne
    clear hok hk hrt h1 h2 hab hne
    go_enter Try.func68, Try.ntmps68
    go_wp2
    refine wp_region_quiet_below (by kernel_rfl) (by kernel_rfl) ?_
    repeat (go_big_quiet_step ((first | (go_at_call_of 62 (Value.string r.a); exact Calls.regrown_of (K1.out _ (M0.out.kept (hb0.trans ((below_regrown _ _ _).mono hb0.size))))) | (go_at_call_of 62 (Value.string r.b); exact Calls.regrown_of (K2.out _ (M0.out.kept (hb0.trans ((below_regrown _ _ _).mono hb0.size))))))))
    refine wpQuiet_nil ?_
    intro w3 hw'
    have hb3 := below_of_ex hw'
    clear hw' q1 q2 q3
    have e1 := cell_kept c1 hb3
    have e20 := cell_kept d0 hb3
    have e21 := cell_kept d1 hb3
    have e22 := cell_kept d2 hb3
    have e23 := cell_kept d3 hb3
    have hbw3 := hb0.trans (hb3.mono hb0.size)
    have HO3 := Lib.hid (own_below HO.out hbw3)
    have r1 := own_cells Mem.enc_len HO3.out rfl hi (j := 1) (v := .int .i64 ms[i].rating) rfl
    have r2 := own_cells Mem.enc_len HO3.out rfl hj (j := 1) (v := .int .i64 ms[j].rating) rfl
    have p1 := cell_regrown e1
    have p20 := cell_regrown e20
    have p21 := cell_regrown e21
    have p22 := cell_regrown e22
    have p23 := cell_regrown e23
    have p3 := cell_regrown r1
    have p4 := cell_regrown r2
    clear c1 d0 d1 d2 d3 e20 e21 e22 e23 r1 r2 hb3
    go_wp2
    refine wp_region_quiet_below (by kernel_rfl) (by kernel_rfl) ?_
    repeat (go_big_quiet_step ((go_at_call 109; exact Calls.regrown_of (change_any _ _ r _ ra0 ra1 rb0 rb1 s0 s1 s2 s3))))
    refine wpQuiet_nil ?_
    intro w4 hw'
    have hb4 := below_of_ex hw'
    clear hw' p1 p20 p21 p22 p23 p3 p4
    obtain ⟨x, hx⟩ : ∃ x, x = gain ms[i].rating ms[j].rating r.sa r.sb := ⟨_, rfl⟩
    rw [← hx] at g0 g1 g2 g3 HR ⊢
    clear hx
    have e1' := cell_kept e1 hb4
    have hbw4 := hbw3.trans (hb4.mono hbw3.size)
    have ho4 := own_below HO3.out hb4
    have r1 := own_cells Mem.enc_len ho4 rfl hi (j := 1) (v := .int .i64 ms[i].rating) rfl
    have f1 := ho4.frozenAt (i * 2 + 1)
    obtain ⟨ho5, hg5⟩ := ho4.stored (i * 2 + 1) (.int .i64 (ms[i].rating + x))
    rw [mem_set hi] at ho5
    have hj5 : j < (ms.set i ⟨ms[i].name, ms[i].rating + x⟩).length := by simpa using hj
    have hget : (ms.set i ⟨ms[i].name, ms[i].rating + x⟩)[j] = ms[j] := List.getElem_set_ne HN.out _
    have r2 := own_cells Mem.enc_len ho5 (by simp) hj5 (j := 1) (v := .int .i64 ms[j].rating) (by rw [hget]; rfl)
    have f2 := ho5.frozenAt (j * 2 + 1)
    have hcb : (w4.setCell ⟨g, i * 2 + 1, none⟩ (.int .i64 (ms[i].rating + x))).cell? ⟨w.heap.size, 0, none⟩ = some (.slice (some ⟨g, 0, none⟩) ms.length cap) := hg5.cell e1' (by
      have := HO.out.lt g rfl
      simp
      omega)
    obtain ⟨ho6, hg6⟩ := ho5.stored (j * 2 + 1) (.int .i64 (ms[j].rating - x))
    rw [mem_set hj5, hget] at ho6
    have HO6 := Lib.hid ho6
    have HG6 := Lib.hid (grownBy_trans (grown_of_below (row := some g) hbw4) (grownBy_trans hg5 hg6))
    clear ho4 ho5 ho6 hg5 hg6 hget hj5 hb4 e1
    go_wp2
    go_ret
    rw [HR.out]
    exact ⟨rfl, HO6.out, HG6.out⟩
end Go.Proofs.Ytpodkgfapbcmlaa

namespace Go.Proofs.Ytpodkgfapbcmlaa
open Go.ChangeShapes Go.WideShapes Go.ChangeAt Go.RowKit Go.Sort

/-- a club in new memory, and a number -/
def ClubInt (w : World) (p : List Mem × Int) (en : Ending) (w' : World) : Prop :=
  ∃ (a : Option Addr) (cap : Nat), en = .returned (.tuple #[.agg #[.slice a p.1.length cap], .int .i64 p.2]) ∧ w'.ownsRow w.heap.size 56 2 (.slice a p.1.length cap) p.1.length (p.1.flatMap Mem.enc) ∧ Below w.heap.size w w'

set_option maxHeartbeats 4000000 in
theorem l26Rate_any (ms : List Mem) (r : Res) (a : Option Addr) (cap cb co rb ro : Nat) (w : World) (hc : w.cell? ⟨cb, co, none⟩ = some (.slice a ms.length cap)) (hm : SliceAt w 2 Mem.enc a ms) (hr : ResAt w rb ro r) (hn : a = none → ms = []) (hl : ms.length ≤ 1048576) (hok : resOk r = true) (hk : known ms r = true) (hrt : RatingsOk ms) :
    Calls Try.prog 65 #[.pointer (some ⟨cb, co, none⟩), .pointer (some ⟨rb, ro, none⟩)] w (ClubInt w (rateOf ms r)) := by
  have HM := Lib.hid hm; clear hm
  obtain ⟨i0, hi0, hz0, hz1, hz2⟩ := info_parts infoMember
  have hb0 : Below w.heap.size w (w.alloc (.cells #[.slice none 0 0] 30)) := (Below.refl _ _).alloc (Nat.le_refl _) _
  cases a with
  | none => 
    exfalso
    obtain rfl := hn rfl
    simp [known, findMem, findFrom] at hk
  | some ad =>
    clear hn
    have hnews : ∀ j u, (ms.flatMap Mem.enc)[j]? = some u → ((w.alloc (.cells #[.slice none 0 0] 30)).alloc (.cells #[] 56)).cell? (ad.add j) = some u := by
      intro j u hj
      rcases HM.out with rfl | ⟨b, off, hab, hcs⟩
      · simp at hj
      · simp only [Option.some.injEq] at hab
        subst hab
        exact cell_alloc (cell_alloc (cellsAt_row Mem.enc_len (by decide) hcs j u hj) _) _
    have hown := World.ownsRow_made (base := w.heap.size + 1) (e := 56) (size := 2) (w.alloc (.cells #[.slice none 0 0] 30)) #[] 0 (by simp) (by unfold maxLen; omega) rfl
    simp only [World.size_alloc] at hown
    have HN := Lib.hid hnews
    have HO := Lib.hid hown
    have hfl : (ms.flatMap Mem.enc).length = ms.length * 2 := flatMap_len Mem.enc_len ms
    have HFL := Lib.hid hfl
    have hcA := cell_alloc (cell_alloc hc (.cells #[.slice none 0 0] 30)) (.cells #[] 56)
    have hR0 := cell_alloc (cell_new0 w #[.slice none 0 0] 30 (i := 0) (v := .slice none 0 0) rfl) (.cells #[] 56)
    have hra := (hr.kept ((Below.refl w.heap.size w).alloc (Nat.le_refl _) (.cells #[.slice none 0 0] 30)))
    have HRA := Lib.hid hra
    clear hnews hown hfl hra
    go_enter Try.func65, Try.ntmps65
    go_wp2_with (at_builtin; refine wpList_append_own _ rfl (.tmp 10) (.tmp 14) 28 rfl (w.heap.size + 1) 56 i0 _ 2 24 Try.underlying28 hi0 hz0 hz1 hz2 rfl (by decide) _ 0 [] rfl HO.out ad ms.length cap (ms.flatMap Mem.enc) rfl HFL.out HN.out (mem_oneCell ms) ?c1 ?c2 ?c3 ?_)
    case c1 => unfold maxLen; omega
    case c2 => omega
    case c3 => simp
    intro v' w2 hown2 hgr _
    obtain ⟨a', cap', hv⟩ := own_shape hown2
    rw [hv] at hown2
    rw [hv]
    have hb2 : Below w.heap.size w w2 := below_grown (((Below.refl w.heap.size w).alloc (Nat.le_refl _) (.cells #[.slice none 0 0] 30)).alloc (by simp) (.cells #[] 56)) (by simp; omega) hgr (by simp)
    have hx : Below w2.heap.size w2 (w2.alloc (.cells #[.slice a' ms.length cap'] 30)) := (Below.refl _ _).alloc (Nat.le_refl _) _
    have hb3 := hb2.trans (hx.mono hb2.size)
    have hR2 := hgr.cell hR0 (by simp [Value.ownBlock])
    have hw2 : w.heap.size + 1 < w2.heap.size := by have := hgr.size; simp at this; omega
    have hR3 := cell_kept hR2 hx
    have hO3 := cell_new0 w2 #[.slice a' ms.length cap'] 30 (i := 0) (v := .slice a' ms.length cap') rfl
    have hc3 := cell_kept (cell_kept hc hb2) hx
    have HM3 := Lib.hid (HM.out.kept hb3)
    have hr3 := hr.kept hb3
    have HLT := Lib.hid hown2.lt
    have HO3 := Lib.hid (own_below hown2 hx)
    have hfR : w2.frozen? ⟨w.heap.size, 0, none⟩ = false := by
      rw [World.frozen?_of_block (hgr.block w.heap.size (by simp; omega) (by simp [Value.ownBlock]))]
      simp [go_sem]
    have hfR3 : (w2.alloc (.cells #[.slice a' ms.length cap'] 30)).frozen? ⟨w.heap.size, 0, none⟩ = false := (hx.frozen (p := ⟨w.heap.size, 0, none⟩) (by simp; omega)).trans hfR
    clear hcA hR0 HRA hgr hown2 HN HO HFL hR2 hfR hb0 hc hr HM hv
    cases hbe : r.b.toList.isEmpty with
    | true =>
      have hbn : r.b.toList = [] := List.isEmpty_iff.1 hbe
      have HR := Lib.hid (rateOf_bye (ms := ms) hbe)
      obtain ⟨e0, e1, e2, e3⟩ := hr3
      go_wp2_with fail
      generalize w2.alloc (.cells #[.slice a' ms.length cap'] 30) = w3 at *
      have hFin : (w3.setCell ⟨w.heap.size, 0, none⟩ (.slice a' ms.length cap')).cell? ⟨w.heap.size, 0, none⟩ = some (.slice a' ms.length cap') := by go_cell
      go_wp2
      refine bodyPost_ret (v := .tuple #[.agg #[.slice a' ms.length cap'], .int .i64 0]) (by simp [results, Try.results65, go_sem, hFin]) rfl ?_
      rw [HR.out]
      exact ⟨a', cap', rfl, own_mono (ownsRow_setCell_below HO3.out (by simp) _) (by omega), hb3.setCell (Nat.le_refl _) _⟩
    | false =>
      obtain ⟨i, j, h1, hi, h2, hj⟩ := known_game hk hbe
      obtain ⟨s0, s1, s2, s3, hab⟩ := scores_game hok hbe
      have hne := ne_of_names hi hj h1 h2 hab
      have HR := Lib.hid (rateOf_game hbe hi hj h1 h2 hne)
      have hbn : ¬ r.b.toList = [] := fun e => by rw [e] at hbe; simp at hbe
      obtain ⟨ra0, ra1⟩ := hrt.at hi
      obtain ⟨rb0, rb1⟩ := hrt.at hj
      obtain ⟨g0, g1, g2, g3⟩ := gain_bd ms[i].rating ms[j].rating r.sa r.sb ra0 ra1 rb0 rb1
      obtain ⟨g, rfl⟩ : ∃ g, a' = some ⟨g, 0, none⟩ := by
        rcases HO3.out.2 with ⟨_, h⟩ | ⟨g, _, _, h, _⟩
        · omega
        · simp only [Value.slice.injEq] at h
          exact ⟨g, h.1⟩
      have HN := Lib.hid hne
      have HRES := Lib.hid hr3
      obtain ⟨e0, e1, e2, e3⟩ := hr3
      obtain ⟨hgb, hgl⟩ := HLT.out g rfl
      have hfo : (w2.alloc (.cells #[.slice (some ⟨g, 0, none⟩) ms.length cap'] 30)).frozen? ⟨w2.heap.size, 0, none⟩ = false := by simp [go_sem]
      go_wp2_with fail
      generalize hw3 : w2.alloc (.cells #[.slice (some ⟨g, 0, none⟩) ms.length cap'] 30) = w3 at *
      clear hw3
      refine (l26Find_any ms r.a cb co (some ad) cap w3 hc3 HM3.out (by omega)).mono ?_
      rintro e w4 ⟨rfl, rfl⟩
      rw [h1]
      go_wp2_with fail
      refine (l26Find_any ms r.b cb co (some ad) cap w3 hc3 HM3.out (by omega)).mono ?_
      rintro e w4 ⟨rfl, rfl⟩
      rw [h2]
      obtain ⟨mb, mo, had, hcs⟩ := HM3.out.open hi
      obtain rfl : ad = ⟨mb, mo, none⟩ := by simpa using had
      clear had
      have m1 := hcs i hi 1 (.int .i64 ms[i].rating) rfl
      have m2 := hcs j hj 1 (.int .i64 ms[j].rating) rfl
      clear hcs h1 h2 hne hab hok hk hrt
      go_wp2
      go_quiet ((go_at_call 106; exact quiet_of_drew (l26Gain_any _ _ rb ro r _ (HRES.out.drew ⟨_, rfl⟩) ra0 ra1 rb0 rb1)))
      have hd4 : Drew w3 (w3.drewN nq) := ⟨_, rfl⟩
      generalize w3.drewN nq = w4 at *
      obtain ⟨x, hx'⟩ : ∃ x, x = gain ms[i].rating ms[j].rating r.sa r.sb := ⟨_, rfl⟩
      rw [← hx'] at g0 g1 g2 g3 HR ⊢
      clear hx'
      have hO4 := (hd4.cell ⟨w2.heap.size, 0, none⟩).trans hO3
      have hR4 := (hd4.cell ⟨w.heap.size, 0, none⟩).trans hR3
      have hfR4 := (hd4.frozen ⟨w.heap.size, 0, none⟩).trans hfR3
      have hb4 := hb3.trans ((hd4.below _).mono hb3.size)
      have ho4 := own_below HO3.out (hd4.below _)
      have r1 := own_cells Mem.enc_len ho4 rfl hi (j := 1) (v := .int .i64 ms[i].rating) rfl
      have f1 := ho4.frozenAt (i * 2 + 1)
      obtain ⟨ho5, hg5⟩ := ho4.stored (i * 2 + 1) (.int .i64 (ms[i].rating + x))
      rw [mem_set hi] at ho5
      have hj5 : j < (ms.set i ⟨ms[i].name, ms[i].rating + x⟩).length := by simpa using hj
      have hget : (ms.set i ⟨ms[i].name, ms[i].rating + x⟩)[j] = ms[j] := List.getElem_set_ne HN.out _
      have r2 := own_cells Mem.enc_len ho5 (by simp) hj5 (j := 1) (v := .int .i64 ms[j].rating) (by rw [hget]; rfl)
      have f2 := ho5.frozenAt (j * 2 + 1)
      have hO5 := hg5.cell hO4 (by simp; omega)
      have hR5 := hg5.cell hR4 (by simp; omega)
      obtain ⟨ho6, hg6⟩ := ho5.stored (j * 2 + 1) (.int .i64 (ms[j].rating - x))
      rw [mem_set hj5, hget] at ho6
      have hO6 := hg6.cell hO5 (by simp; omega)
      have hR6 := hg6.cell hR5 (by simp; omega)
      have hfR6 : ((w4.setCell ⟨g, i * 2 + 1, none⟩ (.int .i64 (ms[i].rating + x))).setCell ⟨g, j * 2 + 1, none⟩ (.int .i64 (ms[j].rating - x))).frozen? ⟨w.heap.size, 0, none⟩ = false := by
        rw [World.frozen?_of_block (hg6.block w.heap.size (by simp; have := World.block_lt_of_cell? _ _ hR4; simp at this; omega) (by simp; omega)), World.frozen?_of_block (hg5.block w.heap.size (by have := World.block_lt_of_cell? _ _ hR4; simpa using this) (by simp; omega))]
        exact hfR4
      have hb6 := below_grown (below_grown hb4 hb4.size hg5 (by omega)) (by simp; exact hb4.size) hg6 (by omega)
      have HO6 := Lib.hid ho6
      clear ho4 ho5 ho6 hg5 hg6 hget hj5 hd4
      have hFin : (((w4.setCell ⟨g, i * 2 + 1, none⟩ (.int .i64 (ms[i].rating + x))).setCell ⟨g, j * 2 + 1, none⟩ (.int .i64 (ms[j].rating - x))).setCell ⟨w.heap.size, 0, none⟩ (.slice (some ⟨g, 0, none⟩) ms.length cap')).cell? ⟨w.heap.size, 0, none⟩ = some (.slice (some ⟨g, 0, none⟩) ms.length cap') := by go_cell
      go_wp2
      refine bodyPost_ret (v := .tuple #[.agg #[.slice (some ⟨g, 0, none⟩) ms.length cap'], .int .i64 x]) (by simp [results, Try.results65, go_sem, hFin]) rfl ?_
      rw [HR.out]
      refine ⟨some ⟨g, 0, none⟩, cap', by simp only [List.length_set], ?_, hb6.setCell (Nat.le_refl _) _⟩
      simp only [List.length_set]
      exact own_mono (ownsRow_setCell_below HO6.out (by simp) _) (by omega)
end Go.Proofs.Ytpodkgfapbcmlaa

namespace Go.Proofs.Ytpodkgfapbcmlaa
open Go.ChangeShapes Go.WideShapes Go.ChangeAt Go.RowKit Go.Sort

def rateResult (ms : List Mem) (r : Res) : List Mem × Int × Int :=
  if codeOf ms [r] = 0 then ((rateOf ms r).1, (rateOf ms r).2, 0) else ([], 0, codeOf ms [r])
/-- a club in new memory, and two numbers -/
def ClubInt2 (w : World) (p : List Mem × Int × Int) (en : Ending) (w' : World) : Prop :=
  ∃ (a : Option Addr) (cap : Nat), en = .returned (.tuple #[.agg #[.slice a p.1.length cap], .int .i64 p.2.1, .int .i64 p.2.2]) ∧ w'.ownsRow w.heap.size 56 2 (.slice a p.1.length cap) p.1.length (p.1.flatMap Mem.enc) ∧ Below w.heap.size w w'
theorem code_zero {ms : List Mem} {rs : List Res} (h : codeOf ms rs = 0) : clubOk ms = true ∧ rs.all resOk = true ∧ rs.all (known ms) = true ∧ rs.length ≤ 200 := by
  unfold codeOf at h
  split at h
  · omega
  · split at h
    · omega
    · split at h
      · omega
      · split at h
        · omega
        · rename_i h1 h2 h3 h4
          exact ⟨by simpa using h1, by simpa using h2, by simpa using h3, by omega⟩
theorem rateResult_bad {ms : List Mem} {r : Res} (h : codeOf ms [r] ≠ 0) : rateResult ms r = ([], 0, codeOf ms [r]) := by unfold rateResult; rw [if_neg h]
theorem rateResult_ok {ms : List Mem} {r : Res} (h : codeOf ms [r] = 0) : rateResult ms r = ((rateOf ms r).1, (rateOf ms r).2, 0) := by unfold rateResult; rw [if_pos h]
theorem codeOf_bd (ms : List Mem) (rs : List Res) : 0 ≤ codeOf ms rs ∧ codeOf ms rs ≤ 5 := by
  unfold codeOf
  split <;> (try split) <;> (try split) <;> (try split) <;> omega
theorem slice_one {w : World} {b : Nat} {r : Res} (h : ResAt w b 0 r) : SliceAt w 4 Res.enc (some ⟨b, 0, none⟩) [r] := by
  refine .inr ⟨b, 0, rfl, fun i hi j v hv => ?_⟩
  obtain rfl : i = 0 := by simp at hi; omega
  obtain ⟨h0, h1, h2, h3⟩ := h
  match j, hv with
  | 0, hv => simp [Res.enc] at hv; subst hv; exact h0
  | 1, hv => simp [Res.enc] at hv; subst hv; exact h1
  | 2, hv => simp [Res.enc] at hv; subst hv; exact h2
  | 3, hv => simp [Res.enc] at hv; subst hv; exact h3
  | j + 4, hv => simp [Res.enc] at hv
theorem resAt_new (w : World) (r : Res) (t : TypeId) : ResAt (w.alloc (.cells #[.string r.a, .string r.b, .int .i64 r.sa, .int .i64 r.sb] t)) w.heap.size 0 r :=
  ⟨cell_new0 _ _ _ rfl, cell_new0 _ _ _ rfl, cell_new0 _ _ _ rfl, cell_new0 _ _ _ rfl⟩

set_option maxHeartbeats 4000000 in
theorem specRateResult_any (ms : List Mem) (r : Res) (a : Option Addr) (cap : Nat) (w : World) (hm : SliceAt w 2 Mem.enc a ms) (hn : a = none → ms = []) (hl : ms.length ≤ 1048576) (hf : MemsFit ms) (hfr : r.fit) :
    Calls Try.prog 18 #[.agg #[.slice a ms.length cap], .agg #[.string r.a, .string r.b, .int .i64 r.sa, .int .i64 r.sb]] w (ClubInt2 w (rateResult ms r)) := by
  have HM := Lib.hid hm; clear hm
  have HNIL := Lib.hid hn; clear hn
  -- the world behind the boxes
  obtain ⟨w1, hw1⟩ : ∃ w1, w1 = ((w.alloc (.cells #[.slice a ms.length cap] 30)).alloc (.cells #[.string r.a, .string r.b, .int .i64 r.sa, .int .i64 r.sb] 39)).alloc (.cells #[.slice none 0 0] 30) := ⟨_, rfl⟩
  have hb : Below w.heap.size w w1 := by rw [hw1]; exact (((Below.refl _ _).alloc (Nat.le_refl _) _).alloc (by simp) _).alloc (by simp; omega) _
  have c1 : w1.cell? ⟨w.heap.size, 0, none⟩ = some (.slice a ms.length cap) := by rw [hw1]; exact cell_alloc (cell_alloc (cell_new0 w _ _ rfl) _) _
  have r1 : ResAt w1 (w.heap.size + 1) 0 r := by
    rw [hw1]
    have := (resAt_new (w.alloc (.cells #[.slice a ms.length cap] 30)) r 39).kept ((Below.refl _ _).alloc (Nat.le_refl _) (.cells #[.slice none 0 0] 30))
    simpa using this
  have d1 : w1.cell? ⟨w.heap.size + 1 + 1, 0, none⟩ = some (.slice none 0 0) := by
    rw [hw1]
    have := cell_new0 ((w.alloc (.cells #[.slice a ms.length cap] 30)).alloc (.cells #[.string r.a, .string r.b, .int .i64 r.sa, .int .i64 r.sb] 39)) #[.slice none 0 0] 30 (i := 0) (v := .slice none 0 0) rfl
    simpa using this
  have f1 : w1.frozen? ⟨w.heap.size + 1 + 1, 0, none⟩ = false := by rw [hw1]; simp [go_sem]
  have hs1 : w1.heap.size = w.heap.size + 1 + 1 + 1 := by rw [hw1]; simp
  have HW1 := Lib.hid hw1; clear hw1
  have hx : Below w1.heap.size w1 (w1.alloc (.cells #[.string r.a, .string r.b, .int .i64 r.sa, .int .i64 r.sb] 39)) := (Below.refl _ _).alloc (Nat.le_refl _) _
  have RS : Hid (SliceAt (w1.alloc (.cells #[.string r.a, .string r.b, .int .i64 r.sa, .int .i64 r.sb] 39)) 4 Res.enc (some ⟨w.heap.size + 1 + 1 + 1, 0, none⟩) [r]) := by
    have := slice_one (resAt_new w1 r 39)
    rw [hs1] at this
    exact this
  have HS1 := Lib.hid hs1; clear hs1
  cases hcode : (codeOf ms [r] == 0) with
  | false =>
    have hcd : codeOf ms [r] ≠ 0 := by simpa using hcode
    have HR := Lib.hid (rateResult_bad hcd)
    have hcn : (codeOf ms [r] != 0) = true := by simpa using hcd
    have HCN := Lib.hid hcn
    clear hcode hcd hcn
    go_enter Try.func18, Try.ntmps18
    go_wp2_with fail
    rw [← HW1.out]
    replace c1 := cell_kept c1 hx
    replace d1 := cell_kept d1 hx
    replace f1 := (hx.frozen (p := ⟨w.heap.size + 1 + 1, 0, none⟩) (by rw [HS1.out]; simp)).trans f1
    replace hb := hb.trans (hx.mono hb.size)
    generalize w1.alloc (.cells #[.string r.a, .string r.b, .int .i64 r.sa, .int .i64 r.sb] 39) = w2 at *
    refine (l26Code_any ms [r] _ 0 a _ cap 1 w2 c1 (HM.out.kept hb) RS.out hl (by simp) hf (by intro x hx; simp at hx; subst hx; exact hfr)).mono ?_
    rintro e w3 ⟨rfl, hd⟩
    have d3 := (hd.cell ⟨w.heap.size + 1 + 1, 0, none⟩).trans d1
    have f3 := (hd.frozen ⟨w.heap.size + 1 + 1, 0, none⟩).trans f1
    have hb3 := hb.trans ((hd.below _).mono hb.size)
    generalize hcg : codeOf ms [r] = code at *
    have hcn := HCN.out
    clear hcg
    have hFin : (w3.setCell ⟨w.heap.size + 1 + 1, 0, none⟩ (.slice none 0 0)).cell? ⟨w.heap.size + 1 + 1, 0, none⟩ = some (.slice none 0 0) := by go_cell
    go_wp2
    refine bodyPost_ret (v := .tuple #[.agg #[.slice none 0 0], .int .i64 0, .int .i64 code]) (by simp [results, Try.results18, go_sem, hFin]) rfl ?_
    rw [HR.out]
    exact ⟨none, 0, rfl, by simpa using World.ownsRow_nil _ w.heap.size 56 2, hb3.setCell (by simp; omega) _⟩
  | true =>
    have hcd : codeOf ms [r] = 0 := by simpa using hcode
    have HR := Lib.hid (rateResult_ok hcd)
    obtain ⟨z1, z2, z3, _⟩ := code_zero hcd
    have hok : resOk r = true := by simpa using z2
    have hkn : known ms r = true := by simpa using z3
    have hrt := ratings_of z1
    have HCD := Lib.hid hcd
    have HOK := Lib.hid hok
    have HKN := Lib.hid hkn
    have HRT := Lib.hid hrt
    clear hcode hcd z1 z2 z3 hok hkn hrt
    go_enter Try.func18, Try.ntmps18
    go_wp2_with fail
    rw [← HW1.out]
    replace c1 := cell_kept c1 hx
    replace d1 := cell_kept d1 hx
    replace r1 := r1.kept hx
    replace f1 := (hx.frozen (p := ⟨w.heap.size + 1 + 1, 0, none⟩) (by rw [HS1.out]; simp)).trans f1
    replace hb := hb.trans (hx.mono hb.size)
    generalize w1.alloc (.cells #[.string r.a, .string r.b, .int .i64 r.sa, .int .i64 r.sb] 39) = w2 at *
    refine (l26Code_any ms [r] _ 0 a _ cap 1 w2 c1 (HM.out.kept hb) RS.out hl (by simp) hf (by intro x hx; simp at hx; subst hx; exact hfr)).mono ?_
    rintro e w3 ⟨rfl, hd⟩
    rw [HCD.out]
    replace c1 := (hd.cell ⟨w.heap.size, 0, none⟩).trans c1
    replace d1 := (hd.cell ⟨w.heap.size + 1 + 1, 0, none⟩).trans d1
    replace f1 := (hd.frozen ⟨w.heap.size + 1 + 1, 0, none⟩).trans f1
    replace r1 := r1.drew hd
    replace hb := hb.trans ((hd.below _).mono hb.size)
    have hR1 := Lib.hid r1; clear r1
    go_wp2_with fail
    refine (l26Rate_any ms r a cap _ 0 _ 0 w3 c1 (HM.out.kept hb) hR1.out HNIL.out hl HOK.out HKN.out HRT.out).mono ?_
    rintro e w4 ⟨a', cap', rfl, ho4, hd4⟩
    have hlt : w.heap.size + 1 + 1 < w3.heap.size := block_lt d1
    replace f1 := frozen_kept f1 d1 hd4
    replace d1 := cell_kept d1 hd4
    replace hb := hb.trans (hd4.mono hb.size)
    have hx5 : Below w4.heap.size w4 (w4.alloc (.cells #[.slice a' (rateOf ms r).1.length cap'] 30)) := (Below.refl _ _).alloc (Nat.le_refl _) _
    have c5 := cell_new0 w4 #[.slice a' (rateOf ms r).1.length cap'] 30 (i := 0) (v := .slice a' (rateOf ms r).1.length cap') rfl
    have d5 := cell_kept d1 hx5
    have f5 := frozen_kept f1 d1 hx5
    have HO5 := Lib.hid (own_below ho4 hx5)
    have hb5 := hb.trans (hx5.mono hb.size)
    generalize (rateOf ms r).1 = ms2 at *
    generalize (rateOf ms r).2 = x at *
    clear ho4 hx5
    have hFin : ((w4.alloc (.cells #[.slice a' ms2.length cap'] 30)).setCell ⟨w.heap.size + 1 + 1, 0, none⟩ (.slice a' ms2.length cap')).cell? ⟨w.heap.size + 1 + 1, 0, none⟩ = some (.slice a' ms2.length cap') := by
      generalize w4.alloc (.cells #[.slice a' ms2.length cap'] 30) = w5 at *
      go_cell
    go_wp2
    refine bodyPost_ret (v := .tuple #[.agg #[.slice a' ms2.length cap'], .int .i64 x, .int .i64 0]) (by simp [results, Try.results18, go_sem, hFin]) rfl ?_
    rw [HR.out]
    exact ⟨a', cap', rfl, own_mono (own_setCell HO5.out (by omega) _) (by omega), hb5.setCell (by simp; omega) _⟩
set_option maxHeartbeats 4000000 in
theorem RateResult_any (ms : List Mem) (r : Res) (a : Option Addr) (cap : Nat) (w : World) (hm : SliceAt w 2 Mem.enc a ms) (hn : a = none → ms = []) (hl : ms.length ≤ 1048576) (hf : MemsFit ms) (hfr : r.fit) :
    Calls Try.prog 20 #[.agg #[.slice a ms.length cap], .agg #[.string r.a, .string r.b, .int .i64 r.sa, .int .i64 r.sb]] w (ClubInt2 w (rateResult ms r)) := by
  have HM := Lib.hid hm; clear hm
  have HNIL := Lib.hid hn; clear hn
  -- the world behind the boxes
  obtain ⟨w1, hw1⟩ : ∃ w1, w1 = ((w.alloc (.cells #[.slice a ms.length cap] 30)).alloc (.cells #[.string r.a, .string r.b, .int .i64 r.sa, .int .i64 r.sb] 39)).alloc (.cells #[.slice none 0 0] 30) := ⟨_, rfl⟩
  have hb : Below w.heap.size w w1 := by rw [hw1]; exact (((Below.refl _ _).alloc (Nat.le_refl _) _).alloc (by simp) _).alloc (by simp; omega) _
  have c1 : w1.cell? ⟨w.heap.size, 0, none⟩ = some (.slice a ms.length cap) := by rw [hw1]; exact cell_alloc (cell_alloc (cell_new0 w _ _ rfl) _) _
  have r1 : ResAt w1 (w.heap.size + 1) 0 r := by
    rw [hw1]
    have := (resAt_new (w.alloc (.cells #[.slice a ms.length cap] 30)) r 39).kept ((Below.refl _ _).alloc (Nat.le_refl _) (.cells #[.slice none 0 0] 30))
    simpa using this
  have d1 : w1.cell? ⟨w.heap.size + 1 + 1, 0, none⟩ = some (.slice none 0 0) := by
    rw [hw1]
    have := cell_new0 ((w.alloc (.cells #[.slice a ms.length cap] 30)).alloc (.cells #[.string r.a, .string r.b, .int .i64 r.sa, .int .i64 r.sb] 39)) #[.slice none 0 0] 30 (i := 0) (v := .slice none 0 0) rfl
    simpa using this
  have f1 : w1.frozen? ⟨w.heap.size + 1 + 1, 0, none⟩ = false := by rw [hw1]; simp [go_sem]
  have hs1 : w1.heap.size = w.heap.size + 1 + 1 + 1 := by rw [hw1]; simp
  have HW1 := Lib.hid hw1; clear hw1
  have hx : Below w1.heap.size w1 (w1.alloc (.cells #[.string r.a, .string r.b, .int .i64 r.sa, .int .i64 r.sb] 39)) := (Below.refl _ _).alloc (Nat.le_refl _) _
  have RS : Hid (SliceAt (w1.alloc (.cells #[.string r.a, .string r.b, .int .i64 r.sa, .int .i64 r.sb] 39)) 4 Res.enc (some ⟨w.heap.size + 1 + 1 + 1, 0, none⟩) [r]) := by
    have := slice_one (resAt_new w1 r 39)
    rw [hs1] at this
    exact this
  have HS1 := Lib.hid hs1; clear hs1
  cases hcode : (codeOf ms [r] == 0) with
  | false =>
    have hcd : codeOf ms [r] ≠ 0 := by simpa using hcode
    have HR := Lib.hid (rateResult_bad hcd)
    have hcn : (codeOf ms [r] != 0) = true := by simpa using hcd
    have HCN := Lib.hid hcn
    clear hcode hcd hcn
    go_enter Try.func20, Try.ntmps20
    go_wp2_with fail
    rw [← HW1.out]
    replace c1 := cell_kept c1 hx
    replace d1 := cell_kept d1 hx
    replace f1 := (hx.frozen (p := ⟨w.heap.size + 1 + 1, 0, none⟩) (by rw [HS1.out]; simp)).trans f1
    replace hb := hb.trans (hx.mono hb.size)
    generalize w1.alloc (.cells #[.string r.a, .string r.b, .int .i64 r.sa, .int .i64 r.sb] 39) = w2 at *
    refine (resultsCode_any ms [r] a _ cap 1 w2 (HM.out.kept hb) RS.out hl (by simp) hf (by intro x hx; simp at hx; subst hx; exact hfr)).mono ?_
    rintro e w3 ⟨rfl, hd⟩
    have d3 := cell_kept d1 hd
    have f3 := frozen_kept f1 d1 hd
    have hb3 := hb.trans (hd.mono hb.size)
    generalize hcg : codeOf ms [r] = code at *
    have hcn := HCN.out
    clear hcg
    have hFin : (w3.setCell ⟨w.heap.size + 1 + 1, 0, none⟩ (.slice none 0 0)).cell? ⟨w.heap.size + 1 + 1, 0, none⟩ = some (.slice none 0 0) := by go_cell
    go_wp2
    refine bodyPost_ret (v := .tuple #[.agg #[.slice none 0 0], .int .i64 0, .int .i64 code]) (by simp [results, Try.results20, go_sem, hFin]) rfl ?_
    rw [HR.out]
    exact ⟨none, 0, rfl, by simpa using World.ownsRow_nil _ w.heap.size 56 2, hb3.setCell (by simp; omega) _⟩
  | true =>
    have hcd : codeOf ms [r] = 0 := by simpa using hcode
    have HR := Lib.hid (rateResult_ok hcd)
    obtain ⟨z1, z2, z3, _⟩ := code_zero hcd
    have hok : resOk r = true := by simpa using z2
    have hkn : known ms r = true := by simpa using z3
    have hrt := ratings_of z1
    have HCD := Lib.hid hcd
    have HOK := Lib.hid hok
    have HKN := Lib.hid hkn
    have HRT := Lib.hid hrt
    clear hcode hcd z1 z2 z3 hok hkn hrt
    go_enter Try.func20, Try.ntmps20
    go_wp2_with fail
    rw [← HW1.out]
    replace c1 := cell_kept c1 hx
    replace d1 := cell_kept d1 hx
    replace r1 := r1.kept hx
    replace f1 := (hx.frozen (p := ⟨w.heap.size + 1 + 1, 0, none⟩) (by rw [HS1.out]; simp)).trans f1
    replace hb := hb.trans (hx.mono hb.size)
    generalize w1.alloc (.cells #[.string r.a, .string r.b, .int .i64 r.sa, .int .i64 r.sb] 39) = w2 at *
    refine (resultsCode_any ms [r] a _ cap 1 w2 (HM.out.kept hb) RS.out hl (by simp) hf (by intro x hx; simp at hx; subst hx; exact hfr)).mono ?_
    rintro e w3 ⟨rfl, hd⟩
    rw [HCD.out]
    replace c1 := cell_kept c1 hd
    replace f1 := frozen_kept f1 d1 hd
    replace d1 := cell_kept d1 hd
    replace r1 := r1.kept hd
    replace hb := hb.trans (hd.mono hb.size)
    have hR1 := Lib.hid r1; clear r1
    go_wp2_with fail
    refine (cloneMem_any ms a cap w3 (HM.out.kept hb) hl HNIL.out).mono ?_
    rintro e w4 ⟨a', cap', rfl, ho4, hd4⟩
    have hlt : w.heap.size + 1 + 1 < w3.heap.size := block_lt d1
    have hR4 := hR1.out.kept hd4
    replace f1 := frozen_kept f1 d1 hd4
    replace d1 := cell_kept d1 hd4
    replace hb := hb.trans (hd4.mono hb.size)
    have hx5 : Below w4.heap.size w4 (w4.alloc (.cells #[.slice a' ms.length cap'] 30)) := (Below.refl _ _).alloc (Nat.le_refl _) _
    have o5 := cell_new0 w4 #[.slice a' ms.length cap'] 30 (i := 0) (v := .slice a' ms.length cap') rfl
    have d5 := cell_kept d1 hx5
    have f5 := frozen_kept f1 d1 hx5
    have hlt5 := ho4.lt
    have HLT := Lib.hid hlt5
    have HO5 := Lib.hid (own_below ho4 hx5)
    have hb5 := hb.trans (hx5.mono hb.size)
    obtain ⟨q0, q1, q2, q3⟩ := hR4.kept hx5
    clear ho4 hx5 hlt5 hR1 hR4 c1
    go_wp2_with fail
    generalize hw5 : w4.alloc (.cells #[.slice a' ms.length cap'] 30) = w5 at *
    clear hw5
    refine (rate_any ms r a' cap' _ w5 HO5.out hl HOK.out HKN.out HRT.out).mono ?_
    rintro e w6 ⟨rfl, ho6, hg6⟩
    have hne : ∀ b, b ≤ w3.heap.size - 1 → some b ≠ (Value.slice a' ms.length cap').ownBlock := by
      intro b hb' he
      have := (HLT.out b he.symm).1
      omega
    have o6 := hg6.cell o5 (by
      intro he
      have := (HLT.out _ he.symm).2
      simp at this)
    have d6 := hg6.cell d5 (hne _ (by simp; omega))
    have f6 : w6.frozen? ⟨w.heap.size + 1 + 1, 0, none⟩ = false := by
      rw [World.frozen?_of_block (hg6.block (w.heap.size + 1 + 1) (block_lt d5) (hne _ (by omega)))]
      exact f5
    have hb6 : Below w.heap.size w w6 := hb5.grown hg6 hb5.size (fun k hk => by
      have := (HLT.out k hk).1
      omega)
    have HO6 := Lib.hid ho6
    have hml : (rateOf ms r).1.length = ms.length := by
      unfold rateOf
      split
      · rfl
      · simp [moved]
    have HML := Lib.hid hml
    clear hml ho6 hg6 hne HO5
    generalize (rateOf ms r).2 = x at *
    have hFin : (w6.setCell ⟨w.heap.size + 1 + 1, 0, none⟩ (.slice a' ms.length cap')).cell? ⟨w.heap.size + 1 + 1, 0, none⟩ = some (.slice a' ms.length cap') := by go_cell
    go_wp2
    refine bodyPost_ret (v := .tuple #[.agg #[.slice a' ms.length cap'], .int .i64 x, .int .i64 0]) (by simp [results, Try.results20, go_sem, hFin]) rfl ?_
    rw [HR.out]
    refine ⟨a', cap', by rw [HML.out], ?_, hb6.setCell (by simp; omega) _⟩
    simp only [HML.out]
    exact own_mono (own_setCell HO6.out (by omega) _) (by omega)
end Go.Proofs.Ytpodkgfapbcmlaa
