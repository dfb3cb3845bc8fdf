/- Contracts: whether a member and a club are valid, and where a member stands (program and reference). No condition but that the members lie in memory. -/
import Derived.Test.YtpodkgfapbcmlaaTMember
namespace Go.Proofs.Ytpodkgfapbcmlaa
open Go.ChangeShapes Go.WideShapes Go.ChangeAt Go.RowKit Go.Sort

/-- What memory bounds: no name is longer than a string can be. -/
def MemsFit (ms : List Mem) : Prop := ∀ m ∈ ms, m.fit
theorem MemsFit.at {ms : List Mem} (h : MemsFit ms) {k : Nat} (hk : k < ms.length) : ms[k].name.size ≤ 9223372036854775807 := h _ (List.getElem_mem hk)
def memOk (m : Mem) : Bool := isNameL m.name.data.toList && withinB m.rating 0 4000
/-- the i-th member is fine, and stands behind the one ahead of it -/
def okAt (ms : List Mem) (i : Nat) : Bool :=
  match ms[i]? with
  | none => true
  | some m => memOk m && (i == 0 || Op.bytesLess ((ms.getD (i - 1) m).name).toList m.name.toList)
def clubOk (ms : List Mem) : Bool := decide (ms.length ≤ 12) && (List.range ms.length).all (okAt ms)
def findFrom (nm : ByteArray) : List Mem → Nat → Int
  | [], _ => -1
  | m :: ms, k => if m.name.toList == nm.toList then (k : Int) else findFrom nm ms (k + 1)
def findMem (nm : ByteArray) (ms : List Mem) : Int := findFrom nm ms 0

theorem range_all_succ {p : Nat → Bool} {k : Nat} : (List.range (k + 1)).all p = ((List.range k).all p && p k) := by
  rw [List.range_succ, List.all_append]
  simp
theorem range_all_false {p : Nat → Bool} {n k : Nat} (h : k < n) (hp : p k = false) : (List.range n).all p = false := by
  rw [List.all_eq_false]
  exact ⟨k, List.mem_range.2 h, by simp [hp]⟩
theorem okAt_zero {ms : List Mem} (h : 0 < ms.length) : okAt ms 0 = memOk ms[0] := by
  unfold okAt
  rw [List.getElem?_eq_getElem h]
  simp
theorem okAt_succ {ms : List Mem} {k : Nat} (h : k < ms.length) (h0 : 0 < k) : okAt ms k = (memOk ms[k] && Op.bytesLess (ms[k - 1]'(by omega)).name.toList ms[k].name.toList) := by
  unfold okAt
  rw [List.getElem?_eq_getElem h]
  have e : (k == 0) = false := by simp; omega
  have e2 : ms.getD (k - 1) ms[k] = ms[k - 1]'(by omega) := by rw [List.getD_eq_getElem?_getD, List.getElem?_eq_getElem (by omega)]; rfl
  simp only [e, e2, Bool.false_or]
theorem clubOk_long {ms : List Mem} (h : ¬ ms.length ≤ 12) : clubOk ms = false := by simp [clubOk, h]
theorem clubOk_bad {ms : List Mem} {k : Nat} (h : k < ms.length) (hp : okAt ms k = false) : clubOk ms = false := by
  unfold clubOk
  rw [range_all_false h hp, Bool.and_false]
theorem clubOk_all {ms : List Mem} (h : (List.range ms.length).all (okAt ms) = true) : clubOk ms = decide (ms.length ≤ 12) := by
  unfold clubOk
  rw [h, Bool.and_true]
theorem findFrom_hit {nm : ByteArray} {ms : List Mem} {k : Nat} (h : k < ms.length) (e : (ms[k].name.toList == nm.toList) = true) : findFrom nm (ms.drop k) k = k := by
  rw [List.drop_eq_getElem_cons h, findFrom, if_pos e]
theorem findFrom_miss {nm : ByteArray} {ms : List Mem} {k : Nat} (h : k < ms.length) (e : (ms[k].name.toList == nm.toList) = false) : findFrom nm (ms.drop (k + 1)) (k + 1) = findFrom nm (ms.drop k) k := by
  rw [List.drop_eq_getElem_cons h, findFrom, if_neg (by rw [e]; exact Bool.false_ne_true)]
theorem findFrom_end {nm : ByteArray} {ms : List Mem} {k : Nat} (h : ¬ k < ms.length) : findFrom nm (ms.drop k) k = -1 := by
  rw [List.drop_eq_nil_of_le (by omega)]
  rfl

theorem l26Rating_any (x : Int) (w : World) : Calls Try.prog 84 #[.int .i64 x] w fun e w' => e = .returned (.bool (withinB x 0 4000)) ∧ w = w' := by
  go_enter Try.func84, Try.ntmps84
  go_wp2_with (go_at_call 118; refine (l00In_any _ _ _ _).mono ?_; rintro e w' ⟨rfl, rfl⟩)
  go_ret
  exact ⟨rfl, rfl⟩
set_option maxHeartbeats 400000 in
theorem l26Member_any (b o : Nat) (m : Mem) (w : World) (h0 : w.cell? ⟨b, o, none⟩ = some (.string m.name)) (h1 : w.cell? ⟨b, o + 1, none⟩ = some (.int .i64 m.rating)) (hf : m.name.size ≤ 9223372036854775807) :
    Calls Try.prog 73 #[.pointer (some ⟨b, o, none⟩)] w fun e w' => e = .returned (.bool (memOk m)) ∧ w = w' := by
  go_enter Try.func73, Try.ntmps73
  go_wp2_with (first | (go_at_call 110; refine (specIsName_any _ _ hf).mono ?_; rintro e w' ⟨rfl, rfl⟩) | (go_at_call 84; refine (l26Rating_any _ _).mono ?_; rintro e w' ⟨rfl, rfl⟩))
  all_goals
    go_ret
    exact ⟨ret_bool (by unfold memOk; simp [*]), rfl⟩
set_option maxHeartbeats 400000 in
theorem validMember_any (m : Mem) (w : World) (hf : m.name.size ≤ 9223372036854775807) :
    Calls Try.prog 74 #[.agg #[.string m.name, .int .i64 m.rating]] w fun e w' => e = .returned (.bool (memOk m)) ∧ Below w.heap.size w w' := by
  go_enter Try.func74, Try.ntmps74
  go_wp2_with (first | (go_at_call 111; refine (IsName_any _ _ hf).mono ?_; rintro e w' ⟨rfl, rfl⟩) | (go_at_call 82; refine (within_any _ _ _ _).mono ?_; rintro e w' ⟨rfl, rfl⟩))
  all_goals
    go_ret
    exact ⟨ret_bool (by unfold memOk; simp [*]), (Below.refl _ _).alloc (Nat.le_refl _) _⟩

set_option maxHeartbeats 400000 in
theorem l26Find_any (ms : List Mem) (nm : ByteArray) (b o : Nat) (a : Option Addr) (cap : Nat) (w : World) (hp : w.cell? ⟨b, o, none⟩ = some (.slice a ms.length cap))
    (hm : SliceAt w 2 Mem.enc a ms) (hl : ms.length ≤ 9223372036854775807) : Calls Try.prog 60 #[.pointer (some ⟨b, o, none⟩), .string nm] w fun e w' => e = .returned (.int .i64 (findMem nm ms)) ∧ w = w' := by
  have HM := Lib.hid hm; clear hm
  go_enter Try.func60, Try.ntmps60
  go_wp2
  go_loop [5] (fun i => ∃ k : Nat, k ≤ ms.length ∧ i = .int .i64 k ∧ findFrom nm (ms.drop k) k = findMem nm ms) (fun i => ms.length - (intOf i).toNat)
  case atStart => exact ⟨0, Nat.zero_le _, rfl, rfl⟩
  case round =>
    obtain ⟨k, hk, rfl, hf⟩ := hrel
    have HF := Lib.hid hf; clear hf
    by_cases hlt : k < ms.length
    · obtain ⟨mb, mo, rfl, hc⟩ := HM.out.open hlt
      have hc0 := hc.at0 hlt rfl
      clear hc
      go_wp2
      · go_ret
        exact ⟨ret_int (by rw [← HF.out, findFrom_hit hlt ‹_›]), rfl⟩
      · go_round
        case rel => exact ⟨k + 1, by omega, by go_num, by rw [findFrom_miss hlt ‹_›]; exact HF.out⟩
        case measure => simp [intOf]; omega
    · go_wp2
      go_ret
      exact ⟨ret_int (by rw [← HF.out, findFrom_end hlt]), rfl⟩
end Go.Proofs.Ytpodkgfapbcmlaa
