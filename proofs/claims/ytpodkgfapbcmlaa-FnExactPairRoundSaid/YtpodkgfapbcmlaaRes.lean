/- Contracts: whether a result is valid, the code of a club and results (program and reference). -/
import Derived.Test.YtpodkgfapbcmlaaClubC
import Derived.Test.YtpodkgfapbcmlaaTResult
import Derived.Deep.RegionWith
namespace Go.Proofs.Ytpodkgfapbcmlaa
open Go.ChangeShapes Go.WideShapes Go.ChangeAt Go.RowKit Go.Sort

def resOk (r : Res) : Bool :=
  if r.b.toList.isEmpty = true then isNameL r.a.data.toList && r.sa == 0 && r.sb == 0
  else isNameL r.a.data.toList && isNameL r.b.data.toList && !(r.a.toList == r.b.toList) && withinB r.sa (-2000) 2000 && withinB r.sb (-2000) 2000
theorem resOk_bye {r : Res} (h : r.b.toList.isEmpty = true) : resOk r = (isNameL r.a.data.toList && r.sa == 0 && r.sb == 0) := by unfold resOk; rw [if_pos h]
theorem resOk_game {r : Res} (h : r.b.toList.isEmpty = false) : resOk r = (isNameL r.a.data.toList && isNameL r.b.data.toList && !(r.a.toList == r.b.toList) && withinB r.sa (-2000) 2000 && withinB r.sb (-2000) 2000) := by
  unfold resOk
  rw [if_neg (by rw [h]; exact Bool.false_ne_true)]
def ResFit (rs : List Res) : Prop := ∀ r ∈ rs, r.fit
/-- The cells of one result. -/
def ResAt (w : World) (b o : Nat) (r : Res) : Prop :=
  w.cell? ⟨b, o, none⟩ = some (.string r.a) ∧ w.cell? ⟨b, o + 1, none⟩ = some (.string r.b) ∧ w.cell? ⟨b, o + 2, none⟩ = some (.int .i64 r.sa) ∧ w.cell? ⟨b, o + 3, none⟩ = some (.int .i64 r.sb)
theorem ResAt.drew {w w' : World} {b o : Nat} {r : Res} (h : ResAt w b o r) (hd : Drew w w') : ResAt w' b o r :=
  ⟨(hd.cell _).trans h.1, (hd.cell _).trans h.2.1, (hd.cell _).trans h.2.2.1, (hd.cell _).trans h.2.2.2⟩
theorem ResAt.kept {w w' : World} {b o : Nat} {r : Res} (h : ResAt w b o r) (hd : Below w.heap.size w w') : ResAt w' b o r :=
  ⟨cell_kept h.1 hd, cell_kept h.2.1 hd, cell_kept h.2.2.1 hd, cell_kept h.2.2.2 hd⟩
theorem resAt_of {w : World} {b off : Nat} {rs : List Res} (h : CellsAt w 4 Res.enc b off rs) {k : Nat} (hk : k < rs.length) : ResAt w b (off + k * 4) rs[k] :=
  ⟨h.at0 hk rfl, h k hk 1 _ rfl, h k hk 2 _ rfl, h k hk 3 _ rfl⟩

theorem l26Score_any (x : Int) (w : World) : Calls Try.prog 127 #[.int .i64 x] w fun e w' => e = .returned (.bool (withinB x (-2000) 2000)) ∧ w = w' := by
  go_enter Try.func127, Try.ntmps127
  go_wp2_with (go_at_call 118; refine (l00In_any _ _ _ _).mono ?_; rintro e w' ⟨rfl, rfl⟩)
  go_ret
  exact ⟨rfl, rfl⟩

set_option maxHeartbeats 1000000 in
theorem l26Result_any (b o : Nat) (r : Res) (w : World) (h : ResAt w b o r) (hf : r.fit) :
    Calls Try.prog 104 #[.pointer (some ⟨b, o, none⟩)] w fun e w' => e = .returned (.bool (resOk r)) ∧ Drew w w' := by
  obtain ⟨hfa, hfb⟩ := hf
  obtain ⟨c0, c1, c2, c3⟩ := h
  cases hbe : r.b.toList.isEmpty with
  | true =>
    have HR := Lib.hid (resOk_bye hbe)
    have hbn : r.b.toList = [] := List.isEmpty_iff.1 hbe
    go_enter Try.func104, Try.ntmps104
    go_wp2_with (go_at_call 110; refine (specIsName_any _ _ hfa).mono ?_; rintro e w' ⟨rfl, rfl⟩)
    all_goals
      go_ret
      exact ⟨ret_bool (by rw [HR.out]; simp [*]), Drew.refl _⟩
  | false =>
    have HR := Lib.hid (resOk_game hbe)
    have hbn : ¬ r.b.toList = [] := fun e => by rw [e] at hbe; simp at hbe
    cases h1 : isNameL r.a.data.toList with
    | false =>
      have k1 := fun w => specIsName_any r.a w hfa
      simp only [h1] at k1
      have K1 := Lib.hid k1; clear k1
      go_enter Try.func104, Try.ntmps104
      go_wp2
      go_quiet ((first | (go_at_call_of 110 (Value.string r.a); exact quiet_of_eq (K1.out _)) | (go_at_call_of 110 (Value.string r.b); exact quiet_of_eq (K2.out _)) | (go_at_call_of 127 (Value.int IntKind.i64 r.sa); exact quiet_of_eq (K4.out _)) | (go_at_call_of 127 (Value.int IntKind.i64 r.sb); exact quiet_of_eq (K5.out _))))
      go_wp2
      go_ret
      exact ⟨ret_bool (by rw [HR.out, h1]; rfl), ⟨_, rfl⟩⟩
    | true =>
      have k1 := fun w => specIsName_any r.a w hfa
      simp only [h1] at k1
      have K1 := Lib.hid k1; clear k1
      cases h2 : isNameL r.b.data.toList with
      | false =>
        have k2 := fun w => specIsName_any r.b w hfb
        simp only [h2] at k2
        have K2 := Lib.hid k2; clear k2
        go_enter Try.func104, Try.ntmps104
        go_wp2
        go_quiet ((first | (go_at_call_of 110 (Value.string r.a); exact quiet_of_eq (K1.out _)) | (go_at_call_of 110 (Value.string r.b); exact quiet_of_eq (K2.out _)) | (go_at_call_of 127 (Value.int IntKind.i64 r.sa); exact quiet_of_eq (K4.out _)) | (go_at_call_of 127 (Value.int IntKind.i64 r.sb); exact quiet_of_eq (K5.out _))))
        go_wp2
        go_ret
        exact ⟨ret_bool (by rw [HR.out, h1, h2]; rfl), ⟨_, rfl⟩⟩
      | true =>
        have k2 := fun w => specIsName_any r.b w hfb
        simp only [h2] at k2
        have K2 := Lib.hid k2; clear k2
        cases h3 : (r.a.toList == r.b.toList) with
        | true =>
          have h3' : r.a.toList = r.b.toList := by simpa using h3
          have h3n : (r.a.toList != r.b.toList) = false := by simp [h3']
          have HR' := Lib.hid (show resOk r = false by rw [HR.out, h1, h2, h3]; rfl)
          clear h3'
          go_enter Try.func104, Try.ntmps104
          go_wp2
          go_quiet ((first | (go_at_call_of 110 (Value.string r.a); exact quiet_of_eq (K1.out _)) | (go_at_call_of 110 (Value.string r.b); exact quiet_of_eq (K2.out _)) | (go_at_call_of 127 (Value.int IntKind.i64 r.sa); exact quiet_of_eq (K4.out _)) | (go_at_call_of 127 (Value.int IntKind.i64 r.sb); exact quiet_of_eq (K5.out _))))
          go_wp2
          go_ret
          exact ⟨ret_bool HR'.out.symm, ⟨_, rfl⟩⟩
        | false =>
          have h3' : ¬ r.a.toList = r.b.toList := by simpa using h3
          have h3n : (r.a.toList != r.b.toList) = true := by simp [h3']
          cases h4 : withinB r.sa (-2000) 2000 with
          | false =>
            have k4 := fun w => l26Score_any r.sa w
            simp only [h4] at k4
            have K4 := Lib.hid k4; clear k4
            go_enter Try.func104, Try.ntmps104
            go_wp2
            go_quiet ((first | (go_at_call_of 110 (Value.string r.a); exact quiet_of_eq (K1.out _)) | (go_at_call_of 110 (Value.string r.b); exact quiet_of_eq (K2.out _)) | (go_at_call_of 127 (Value.int IntKind.i64 r.sa); exact quiet_of_eq (K4.out _)) | (go_at_call_of 127 (Value.int IntKind.i64 r.sb); exact quiet_of_eq (K5.out _))))
            go_wp2
            go_ret
            exact ⟨ret_bool (by rw [HR.out, h1, h2, h3, h4]; rfl), ⟨_, rfl⟩⟩
          | true =>
            have k4 := fun w => l26Score_any r.sa w
            simp only [h4] at k4
            have K4 := Lib.hid k4; clear k4
            have k5 := fun w => l26Score_any r.sb w
            have K5 := Lib.hid k5; clear k5
            go_enter Try.func104, Try.ntmps104
            go_wp2
            go_quiet ((first | (go_at_call_of 110 (Value.string r.a); exact quiet_of_eq (K1.out _)) | (go_at_call_of 110 (Value.string r.b); exact quiet_of_eq (K2.out _)) | (go_at_call_of 127 (Value.int IntKind.i64 r.sa); exact quiet_of_eq (K4.out _)) | (go_at_call_of 127 (Value.int IntKind.i64 r.sb); exact quiet_of_eq (K5.out _))))
            go_wp2
            go_ret
            exact ⟨ret_bool (by rw [HR.out, h1, h2, h3, h4]; simp), ⟨_, rfl⟩⟩

set_option maxHeartbeats 1000000 in
theorem validResult_any (r : Res) (w : World) (hf : r.fit) :
    Calls Try.prog 108 #[.agg #[.string r.a, .string r.b, .int .i64 r.sa, .int .i64 r.sb]] w fun e w' => e = .returned (.bool (resOk r)) ∧ Below w.heap.size w w' := by
  obtain ⟨hfa, hfb⟩ := hf
  cases hbe : r.b.toList.isEmpty with
  | true =>
    have HR := Lib.hid (resOk_bye hbe)
    have hbn : r.b.toList = [] := List.isEmpty_iff.1 hbe
    go_enter Try.func108, Try.ntmps108
    go_wp2_with (go_at_call 111; refine (IsName_any _ _ hfa).mono ?_; rintro e w' ⟨rfl, rfl⟩)
    all_goals
      go_ret
      exact ⟨ret_bool (by rw [HR.out]; simp [*]), by go_grown⟩
  | false =>
    have HR := Lib.hid (resOk_game hbe)
    have hbn : ¬ r.b.toList = [] := fun e => by rw [e] at hbe; simp at hbe
    go_enter Try.func108, Try.ntmps108
    go_wp2_with (first | (go_at_call_of 111 (Value.string r.a); refine (IsName_any r.a _ hfa).mono ?_; rintro e w' ⟨rfl, rfl⟩) | (go_at_call_of 111 (Value.string r.b); refine (IsName_any r.b _ hfb).mono ?_; rintro e w' ⟨rfl, rfl⟩) | (go_at_call 82; refine (within_any _ _ _ _).mono ?_; rintro e w' ⟨rfl, rfl⟩))
    all_goals
      go_ret
      exact ⟨ret_bool (by rw [HR.out]; simp [*]), by go_grown⟩
end Go.Proofs.Ytpodkgfapbcmlaa
