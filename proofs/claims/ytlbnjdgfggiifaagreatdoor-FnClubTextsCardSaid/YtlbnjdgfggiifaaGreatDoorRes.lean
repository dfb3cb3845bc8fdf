/- Contracts: whether a result is valid, the code of a club and results (program and reference). · Contracts: the code of a club and results (program and reference). · Contract: the program's code of a club and results. -/
import Derived.Test.YtlbnjdgfggiifaaGreatDoorClub
import Derived.Test.YtlbnjdgfggiifaaGreatDoorTResult
import Derived.Deep.RegionWith
namespace Go.Proofs.YtlbnjdgfggiifaaGreatDoor
open Go.ChangeShapes Go.WideShapes Go.ChangeAt Go.RowKit Go.Sort

def resOk (r : Res) : Bool :=
  if r.b.toList.isEmpty = true then isNameL r.a.data.toList && r.sa == 0 && r.sb == 0
  else isNameL r.a.data.toList && isNameL r.b.data.toList && !(r.a.toList == r.b.toList) && withinB r.sa (-2000) 2000 && withinB r.sb (-2000) 2000
theorem resOk_bye {r : Res} (h : r.b.toList.isEmpty = true) : resOk r = (isNameL r.a.data.toList && r.sa == 0 && r.sb == 0) := by unfold resOk; rw [if_pos h]
theorem resOk_game {r : Res} (h : r.b.toList.isEmpty = false) : resOk r = (isNameL r.a.data.toList && isNameL r.b.data.toList && !(r.a.toList == r.b.toList) && withinB r.sa (-2000) 2000 && withinB r.sb (-2000) 2000) := by
  unfold resOk
  rw [if_neg (by rw [h]; exact Bool.false_ne_true)]
def ResFit (rs : List Res) : Prop := ∀ r ∈ rs, r.fit
/-- The cells of one result. -/
def ResAt (w : World) (b o : Nat) (r : Res) : Prop :=
  w.cell? ⟨b, o, none⟩ = some (.string r.a) ∧ w.cell? ⟨b, o + 1, none⟩ = some (.string r.b) ∧ w.cell? ⟨b, o + 2, none⟩ = some (.int .i64 r.sa) ∧ w.cell? ⟨b, o + 3, none⟩ = some (.int .i64 r.sb)
theorem ResAt.drew {w w' : World} {b o : Nat} {r : Res} (h : ResAt w b o r) (hd : Drew w w') : ResAt w' b o r :=
  ⟨(hd.cell _).trans h.1, (hd.cell _).trans h.2.1, (hd.cell _).trans h.2.2.1, (hd.cell _).trans h.2.2.2⟩
theorem ResAt.kept {w w' : World} {b o : Nat} {r : Res} (h : ResAt w b o r) (hd : Below w.heap.size w w') : ResAt w' b o r :=
  ⟨cell_kept h.1 hd, cell_kept h.2.1 hd, cell_kept h.2.2.1 hd, cell_kept h.2.2.2 hd⟩
theorem resAt_of {w : World} {b off : Nat} {rs : List Res} (h : CellsAt w 4 Res.enc b off rs) {k : Nat} (hk : k < rs.length) : ResAt w b (off + k * 4) rs[k] :=
  ⟨h.at0 hk rfl, h k hk 1 _ rfl, h k hk 2 _ rfl, h k hk 3 _ rfl⟩

theorem l26Score_any (x : Int) (w : World) : Calls Tryz.prog 67 #[.int .i64 x] w fun e w' => e = .returned (.bool (withinB x (-2000) 2000)) ∧ w = w' := by
  go_enter Tryz.func67, Tryz.ntmps67
  go_wp2_with (go_at_call 85; refine (l00In_any _ _ _ _).mono ?_; rintro e w' ⟨rfl, rfl⟩)
  go_ret
  exact ⟨rfl, rfl⟩

set_option maxHeartbeats 1000000 in
theorem l26Result_any (b o : Nat) (r : Res) (w : World) (h : ResAt w b o r) (hf : r.fit) :
    Calls Tryz.prog 44 #[.pointer (some ⟨b, o, none⟩)] w fun e w' => e = .returned (.bool (resOk r)) ∧ Drew w w' := by
  obtain ⟨hfa, hfb⟩ := hf
  obtain ⟨c0, c1, c2, c3⟩ := h
  cases hbe : r.b.toList.isEmpty with
  | true =>
    have HR := Lib.hid (resOk_bye hbe)
    have hbn : r.b.toList = [] := List.isEmpty_iff.1 hbe
    go_enter Tryz.func44, Tryz.ntmps44
    go_wp2_with (go_at_call 66; refine (specIsName_any _ _ hfa).mono ?_; rintro e w' ⟨rfl, rfl⟩)
    all_goals
      go_ret
      exact ⟨ret_bool (by rw [HR.out]; simp [*]), Drew.refl _⟩
  | false =>
    have HR := Lib.hid (resOk_game hbe)
    have hbn : ¬ r.b.toList = [] := fun e => by rw [e] at hbe; simp at hbe
    cases h1 : isNameL r.a.data.toList with
    | false =>
      have k1 := fun w => specIsName_any r.a w hfa
      simp only [h1] at k1
      have K1 := Lib.hid k1; clear k1
      go_enter Tryz.func44, Tryz.ntmps44
      go_wp2
      go_quiet ((first | (go_at_call_of 66 (Value.string r.a); exact quiet_of_eq (K1.out _)) | (go_at_call_of 66 (Value.string r.b); exact quiet_of_eq (K2.out _)) | (go_at_call_of 67 (Value.int IntKind.i64 r.sa); exact quiet_of_eq (K4.out _)) | (go_at_call_of 67 (Value.int IntKind.i64 r.sb); exact quiet_of_eq (K5.out _))))
      go_wp2
      go_ret
      exact ⟨ret_bool (by rw [HR.out, h1]; rfl), ⟨_, rfl⟩⟩
    | true =>
      have k1 := fun w => specIsName_any r.a w hfa
      simp only [h1] at k1
      have K1 := Lib.hid k1; clear k1
      cases h2 : isNameL r.b.data.toList with
      | false =>
        have k2 := fun w => specIsName_any r.b w hfb
        simp only [h2] at k2
        have K2 := Lib.hid k2; clear k2
        go_enter Tryz.func44, Tryz.ntmps44
        go_wp2
        go_quiet ((first | (go_at_call_of 66 (Value.string r.a); exact quiet_of_eq (K1.out _)) | (go_at_call_of 66 (Value.string r.b); exact quiet_of_eq (K2.out _)) | (go_at_call_of 67 (Value.int IntKind.i64 r.sa); exact quiet_of_eq (K4.out _)) | (go_at_call_of 67 (Value.int IntKind.i64 r.sb); exact quiet_of_eq (K5.out _))))
        go_wp2
        go_ret
        exact ⟨ret_bool (by rw [HR.out, h1, h2]; rfl), ⟨_, rfl⟩⟩
      | true =>
        have k2 := fun w => specIsName_any r.b w hfb
        simp only [h2] at k2
        have K2 := Lib.hid k2; clear k2
        cases h3 : (r.a.toList == r.b.toList) with
        | true =>
          have h3' : r.a.toList = r.b.toList := by simpa using h3
          have h3n : (r.a.toList != r.b.toList) = false := by simp [h3']
          have HR' := Lib.hid (show resOk r = false by rw [HR.out, h1, h2, h3]; rfl)
          clear h3'
          go_enter Tryz.func44, Tryz.ntmps44
          go_wp2
          go_quiet ((first | (go_at_call_of 66 (Value.string r.a); exact quiet_of_eq (K1.out _)) | (go_at_call_of 66 (Value.string r.b); exact quiet_of_eq (K2.out _)) | (go_at_call_of 67 (Value.int IntKind.i64 r.sa); exact quiet_of_eq (K4.out _)) | (go_at_call_of 67 (Value.int IntKind.i64 r.sb); exact quiet_of_eq (K5.out _))))
          go_wp2
          go_ret
          exact ⟨ret_bool HR'.out.symm, ⟨_, rfl⟩⟩
        | false =>
          have h3' : ¬ r.a.toList = r.b.toList := by simpa using h3
          have h3n : (r.a.toList != r.b.toList) = true := by simp [h3']
          cases h4 : withinB r.sa (-2000) 2000 with
          | false =>
            have k4 := fun w => l26Score_any r.sa w
            simp only [h4] at k4
            have K4 := Lib.hid k4; clear k4
            go_enter Tryz.func44, Tryz.ntmps44
            go_wp2
            go_quiet ((first | (go_at_call_of 66 (Value.string r.a); exact quiet_of_eq (K1.out _)) | (go_at_call_of 66 (Value.string r.b); exact quiet_of_eq (K2.out _)) | (go_at_call_of 67 (Value.int IntKind.i64 r.sa); exact quiet_of_eq (K4.out _)) | (go_at_call_of 67 (Value.int IntKind.i64 r.sb); exact quiet_of_eq (K5.out _))))
            go_wp2
            go_ret
            exact ⟨ret_bool (by rw [HR.out, h1, h2, h3, h4]; rfl), ⟨_, rfl⟩⟩
          | true =>
            have k4 := fun w => l26Score_any r.sa w
            simp only [h4] at k4
            have K4 := Lib.hid k4; clear k4
            have k5 := fun w => l26Score_any r.sb w
            have K5 := Lib.hid k5; clear k5
            go_enter Tryz.func44, Tryz.ntmps44
            go_wp2
            go_quiet ((first | (go_at_call_of 66 (Value.string r.a); exact quiet_of_eq (K1.out _)) | (go_at_call_of 66 (Value.string r.b); exact quiet_of_eq (K2.out _)) | (go_at_call_of 67 (Value.int IntKind.i64 r.sa); exact quiet_of_eq (K4.out _)) | (go_at_call_of 67 (Value.int IntKind.i64 r.sb); exact quiet_of_eq (K5.out _))))
            go_wp2
            go_ret
            exact ⟨ret_bool (by rw [HR.out, h1, h2, h3, h4]; simp), ⟨_, rfl⟩⟩

set_option maxHeartbeats 1000000 in
theorem validResult_any (r : Res) (w : World) (hf : r.fit) :
    Calls Tryz.prog 41 #[.agg #[.string r.a, .string r.b, .int .i64 r.sa, .int .i64 r.sb]] w fun e w' => e = .returned (.bool (resOk r)) ∧ Below w.heap.size w w' := by
  obtain ⟨hfa, hfb⟩ := hf
  cases hbe : r.b.toList.isEmpty with
  | true =>
    have HR := Lib.hid (resOk_bye hbe)
    have hbn : r.b.toList = [] := List.isEmpty_iff.1 hbe
    go_enter Tryz.func41, Tryz.ntmps41
    go_wp2_with (go_at_call 63; refine (IsName_any _ _ hfa).mono ?_; rintro e w' ⟨rfl, rfl⟩)
    all_goals
      go_ret
      exact ⟨ret_bool (by rw [HR.out]; simp [*]), by go_grown⟩
  | false =>
    have HR := Lib.hid (resOk_game hbe)
    have hbn : ¬ r.b.toList = [] := fun e => by rw [e] at hbe; simp at hbe
    go_enter Tryz.func41, Tryz.ntmps41
    go_wp2_with (first | (go_at_call_of 63 (Value.string r.a); refine (IsName_any r.a _ hfa).mono ?_; rintro e w' ⟨rfl, rfl⟩) | (go_at_call_of 63 (Value.string r.b); refine (IsName_any r.b _ hfb).mono ?_; rintro e w' ⟨rfl, rfl⟩) | (go_at_call 64; refine (within_any _ _ _ _).mono ?_; rintro e w' ⟨rfl, rfl⟩))
    all_goals
      go_ret
      exact ⟨ret_bool (by rw [HR.out]; simp [*]), by go_grown⟩
end Go.Proofs.YtlbnjdgfggiifaaGreatDoor

namespace Go.Proofs.YtlbnjdgfggiifaaGreatDoor
open Go.ChangeShapes Go.WideShapes Go.ChangeAt Go.RowKit Go.Sort

/-- all who play are members -/
def known (ms : List Mem) (r : Res) : Bool := decide (0 ≤ findMem r.a ms) && (r.b.toList.isEmpty || decide (0 ≤ findMem r.b ms))
def codeOf (ms : List Mem) (rs : List Res) : Int :=
  if clubOk ms = false then 1 else if rs.all resOk = false then 1 else if rs.all (known ms) = false then 3 else if 200 < rs.length then 5 else 0

theorem all_take_succ {α : Type} {l : List α} {p : α → Bool} {k : Nat} (h : k < l.length) : (l.take (k + 1)).all p = ((l.take k).all p && p l[k]) := by
  rw [List.take_succ_eq_append_getElem h, List.all_append]
  simp
theorem all_bad {α : Type} {l : List α} {p : α → Bool} {k : Nat} (h : k < l.length) (hp : p l[k] = false) : l.all p = false := by
  rw [List.all_eq_false]
  exact ⟨l[k], List.getElem_mem h, by simp [hp]⟩
theorem all_done {α : Type} {l : List α} {p : α → Bool} {k : Nat} (h : ¬ k < l.length) (ha : (l.take k).all p = true) : l.all p = true := by
  rwa [List.take_of_length_le (by omega)] at ha

/-- where the first result that is not valid stands -/
def badFrom : List Res → Nat → Int
  | [], _ => -1
  | r :: rs, k => if resOk r = true then badFrom rs (k + 1) else (k : Int)
theorem badFrom_hit {rs : List Res} {k : Nat} (h : k < rs.length) (e : resOk rs[k] = false) : badFrom (rs.drop k) k = k := by
  rw [List.drop_eq_getElem_cons h, badFrom, if_neg (by rw [e]; exact Bool.false_ne_true)]
theorem badFrom_miss {rs : List Res} {k : Nat} (h : k < rs.length) (e : resOk rs[k] = true) : badFrom (rs.drop (k + 1)) (k + 1) = badFrom (rs.drop k) k := by
  rw [List.drop_eq_getElem_cons h, badFrom, if_pos e]
theorem badFrom_end {rs : List Res} {k : Nat} (h : ¬ k < rs.length) : badFrom (rs.drop k) k = -1 := by
  rw [List.drop_eq_nil_of_le (by omega)]
  rfl
theorem badFrom_all (rs : List Res) (k : Nat) : (rs.all resOk = true ∧ badFrom rs k = -1) ∨ (rs.all resOk = false ∧ 0 ≤ badFrom rs k) := by
  induction rs generalizing k with
  | nil => exact .inl ⟨rfl, rfl⟩
  | cons r rs ih =>
    unfold badFrom
    cases h : resOk r with
    | true =>
      rw [if_pos rfl]
      rcases ih (k + 1) with ⟨h1, h2⟩ | ⟨h1, h2⟩
      · exact .inl ⟨by simp [h, h1], h2⟩
      · exact .inr ⟨by simp only [List.all_cons, h, h1]; rfl, h2⟩
    | false =>
      rw [if_neg Bool.false_ne_true]
      exact .inr ⟨by simp [h], by omega⟩

end Go.Proofs.YtlbnjdgfggiifaaGreatDoor

namespace Go.Proofs.YtlbnjdgfggiifaaGreatDoor
open Go.ChangeShapes Go.WideShapes Go.ChangeAt Go.RowKit Go.Sort

end Go.Proofs.YtlbnjdgfggiifaaGreatDoor
