/- Contracts: whether a result is valid, the code of a club and results (program and reference). · Contracts: the code of a club and results (program and reference). · Contract: the program's code of a club and results. -/
import Derived.Test.YtpodkgfapbcmlaaClub
import Derived.Test.YtpodkgfapbcmlaaTResult
import Derived.Deep.RegionWith
namespace Go.Proofs.Ytpodkgfapbcmlaa
open Go.ChangeShapes Go.WideShapes Go.ChangeAt Go.RowKit Go.Sort

def resOk (r : Res) : Bool :=
  if r.b.toList.isEmpty = true then isNameL r.a.data.toList && r.sa == 0 && r.sb == 0
  else isNameL r.a.data.toList && isNameL r.b.data.toList && !(r.a.toList == r.b.toList) && withinB r.sa (-2000) 2000 && withinB r.sb (-2000) 2000
theorem resOk_bye {r : Res} (h : r.b.toList.isEmpty = true) : resOk r = (isNameL r.a.data.toList && r.sa == 0 && r.sb == 0) := by unfold resOk; rw [if_pos h]
theorem resOk_game {r : Res} (h : r.b.toList.isEmpty = false) : resOk r = (isNameL r.a.data.toList && isNameL r.b.data.toList && !(r.a.toList == r.b.toList) && withinB r.sa (-2000) 2000 && withinB r.sb (-2000) 2000) := by
  unfold resOk
  rw [if_neg (by rw [h]; exact Bool.false_ne_true)]
def ResFit (rs : List Res) : Prop := ∀ r ∈ rs, r.fit
/-- The cells of one result. -/
def ResAt (w : World) (b o : Nat) (r : Res) : Prop :=
  w.cell? ⟨b, o, none⟩ = some (.string r.a) ∧ w.cell? ⟨b, o + 1, none⟩ = some (.string r.b) ∧ w.cell? ⟨b, o + 2, none⟩ = some (.int .i64 r.sa) ∧ w.cell? ⟨b, o + 3, none⟩ = some (.int .i64 r.sb)
theorem ResAt.drew {w w' : World} {b o : Nat} {r : Res} (h : ResAt w b o r) (hd : Drew w w') : ResAt w' b o r :=
  ⟨(hd.cell _).trans h.1, (hd.cell _).trans h.2.1, (hd.cell _).trans h.2.2.1, (hd.cell _).trans h.2.2.2⟩
theorem ResAt.kept {w w' : World} {b o : Nat} {r : Res} (h : ResAt w b o r) (hd : Below w.heap.size w w') : ResAt w' b o r :=
  ⟨cell_kept h.1 hd, cell_kept h.2.1 hd, cell_kept h.2.2.1 hd, cell_kept h.2.2.2 hd⟩
theorem resAt_of {w : World} {b off : Nat} {rs : List Res} (h : CellsAt w 4 Res.enc b off rs) {k : Nat} (hk : k < rs.length) : ResAt w b (off + k * 4) rs[k] :=
  ⟨h.at0 hk rfl, h k hk 1 _ rfl, h k hk 2 _ rfl, h k hk 3 _ rfl⟩

theorem l26Score_any (x : Int) (w : World) : Calls Try.prog 127 #[.int .i64 x] w fun e w' => e = .returned (.bool (withinB x (-2000) 2000)) ∧ w = w' := by
  go_enter Try.func127, Try.ntmps127
  go_wp2_with (go_at_call 118; refine (l00In_any _ _ _ _).mono ?_; rintro e w' ⟨rfl, rfl⟩)
  go_ret
  exact ⟨rfl, rfl⟩

set_option maxHeartbeats 1000000 in
theorem l26Result_any (b o : Nat) (r : Res) (w : World) (h : ResAt w b o r) (hf : r.fit) :
    Calls Try.prog 104 #[.pointer (some ⟨b, o, none⟩)] w fun e w' => e = .returned (.bool (resOk r)) ∧ Drew w w' := by
  obtain ⟨hfa, hfb⟩ := hf
  obtain ⟨c0, c1, c2, c3⟩ := h
  cases hbe : r.b.toList.isEmpty with
  | true =>
    have HR := Lib.hid (resOk_bye hbe)
    have hbn : r.b.toList = [] := List.isEmpty_iff.1 hbe
    go_enter Try.func104, Try.ntmps104
    go_wp2_with (go_at_call 110; refine (specIsName_any _ _ hfa).mono ?_; rintro e w' ⟨rfl, rfl⟩)
    all_goals
      go_ret
      exact ⟨ret_bool (by rw [HR.out]; simp [*]), Drew.refl _⟩
  | false =>
    have HR := Lib.hid (resOk_game hbe)
    have hbn : ¬ r.b.toList = [] := fun e => by rw [e] at hbe; simp at hbe
    cases h1 : isNameL r.a.data.toList with
    | false =>
      have k1 := fun w => specIsName_any r.a w hfa
      simp only [h1] at k1
      have K1 := Lib.hid k1; clear k1
      go_enter Try.func104, Try.ntmps104
      go_wp2
      go_quiet ((first | (go_at_call_of 110 (Value.string r.a); exact quiet_of_eq (K1.out _)) | (go_at_call_of 110 (Value.string r.b); exact quiet_of_eq (K2.out _)) | (go_at_call_of 127 (Value.int IntKind.i64 r.sa); exact quiet_of_eq (K4.out _)) | (go_at_call_of 127 (Value.int IntKind.i64 r.sb); exact quiet_of_eq (K5.out _))))
      go_wp2
      go_ret
      exact ⟨ret_bool (by rw [HR.out, h1]; rfl), ⟨_, rfl⟩⟩
    | true =>
      have k1 := fun w => specIsName_any r.a w hfa
      simp only [h1] at k1
      have K1 := Lib.hid k1; clear k1
      cases h2 : isNameL r.b.data.toList with
      | false =>
        have k2 := fun w => specIsName_any r.b w hfb
        simp only [h2] at k2
        have K2 := Lib.hid k2; clear k2
        go_enter Try.func104, Try.ntmps104
        go_wp2
        go_quiet ((first | (go_at_call_of 110 (Value.string r.a); exact quiet_of_eq (K1.out _)) | (go_at_call_of 110 (Value.string r.b); exact quiet_of_eq (K2.out _)) | (go_at_call_of 127 (Value.int IntKind.i64 r.sa); exact quiet_of_eq (K4.out _)) | (go_at_call_of 127 (Value.int IntKind.i64 r.sb); exact quiet_of_eq (K5.out _))))
        go_wp2
        go_ret
        exact ⟨ret_bool (by rw [HR.out, h1, h2]; rfl), ⟨_, rfl⟩⟩
      | true =>
        have k2 := fun w => specIsName_any r.b w hfb
        simp only [h2] at k2
        have K2 := Lib.hid k2; clear k2
        cases h3 : (r.a.toList == r.b.toList) with
        | true =>
          have h3' : r.a.toList = r.b.toList := by simpa using h3
          have h3n : (r.a.toList != r.b.toList) = false := by simp [h3']
          have HR' := Lib.hid (show resOk r = false by rw [HR.out, h1, h2, h3]; rfl)
          clear h3'
          go_enter Try.func104, Try.ntmps104
          go_wp2
          go_quiet ((first | (go_at_call_of 110 (Value.string r.a); exact quiet_of_eq (K1.out _)) | (go_at_call_of 110 (Value.string r.b); exact quiet_of_eq (K2.out _)) | (go_at_call_of 127 (Value.int IntKind.i64 r.sa); exact quiet_of_eq (K4.out _)) | (go_at_call_of 127 (Value.int IntKind.i64 r.sb); exact quiet_of_eq (K5.out _))))
          go_wp2
          go_ret
          exact ⟨ret_bool HR'.out.symm, ⟨_, rfl⟩⟩
        | false =>
          have h3' : ¬ r.a.toList = r.b.toList := by simpa using h3
          have h3n : (r.a.toList != r.b.toList) = true := by simp [h3']
          cases h4 : withinB r.sa (-2000) 2000 with
          | false =>
            have k4 := fun w => l26Score_any r.sa w
            simp only [h4] at k4
            have K4 := Lib.hid k4; clear k4
            go_enter Try.func104, Try.ntmps104
            go_wp2
            go_quiet ((first | (go_at_call_of 110 (Value.string r.a); exact quiet_of_eq (K1.out _)) | (go_at_call_of 110 (Value.string r.b); exact quiet_of_eq (K2.out _)) | (go_at_call_of 127 (Value.int IntKind.i64 r.sa); exact quiet_of_eq (K4.out _)) | (go_at_call_of 127 (Value.int IntKind.i64 r.sb); exact quiet_of_eq (K5.out _))))
            go_wp2
            go_ret
            exact ⟨ret_bool (by rw [HR.out, h1, h2, h3, h4]; rfl), ⟨_, rfl⟩⟩
          | true =>
            have k4 := fun w => l26Score_any r.sa w
            simp only [h4] at k4
            have K4 := Lib.hid k4; clear k4
            have k5 := fun w => l26Score_any r.sb w
            have K5 := Lib.hid k5; clear k5
            go_enter Try.func104, Try.ntmps104
            go_wp2
            go_quiet ((first | (go_at_call_of 110 (Value.string r.a); exact quiet_of_eq (K1.out _)) | (go_at_call_of 110 (Value.string r.b); exact quiet_of_eq (K2.out _)) | (go_at_call_of 127 (Value.int IntKind.i64 r.sa); exact quiet_of_eq (K4.out _)) | (go_at_call_of 127 (Value.int IntKind.i64 r.sb); exact quiet_of_eq (K5.out _))))
            go_wp2
            go_ret
            exact ⟨ret_bool (by rw [HR.out, h1, h2, h3, h4]; simp), ⟨_, rfl⟩⟩

set_option maxHeartbeats 1000000 in
theorem validResult_any (r : Res) (w : World) (hf : r.fit) :
    Calls Try.prog 108 #[.agg #[.string r.a, .string r.b, .int .i64 r.sa, .int .i64 r.sb]] w fun e w' => e = .returned (.bool (resOk r)) ∧ Below w.heap.size w w' := by
  obtain ⟨hfa, hfb⟩ := hf
  cases hbe : r.b.toList.isEmpty with
  | true =>
    have HR := Lib.hid (resOk_bye hbe)
    have hbn : r.b.toList = [] := List.isEmpty_iff.1 hbe
    go_enter Try.func108, Try.ntmps108
    go_wp2_with (go_at_call 111; refine (IsName_any _ _ hfa).mono ?_; rintro e w' ⟨rfl, rfl⟩)
    all_goals
      go_ret
      exact ⟨ret_bool (by rw [HR.out]; simp [*]), by go_grown⟩
  | false =>
    have HR := Lib.hid (resOk_game hbe)
    have hbn : ¬ r.b.toList = [] := fun e => by rw [e] at hbe; simp at hbe
    go_enter Try.func108, Try.ntmps108
    go_wp2_with (first | (go_at_call_of 111 (Value.string r.a); refine (IsName_any r.a _ hfa).mono ?_; rintro e w' ⟨rfl, rfl⟩) | (go_at_call_of 111 (Value.string r.b); refine (IsName_any r.b _ hfb).mono ?_; rintro e w' ⟨rfl, rfl⟩) | (go_at_call 82; refine (within_any _ _ _ _).mono ?_; rintro e w' ⟨rfl, rfl⟩))
    all_goals
      go_ret
      exact ⟨ret_bool (by rw [HR.out]; simp [*]), by go_grown⟩
end Go.Proofs.Ytpodkgfapbcmlaa

namespace Go.Proofs.Ytpodkgfapbcmlaa
open Go.ChangeShapes Go.WideShapes Go.ChangeAt Go.RowKit Go.Sort

/-- all who play are members -/
def known (ms : List Mem) (r : Res) : Bool := decide (0 ≤ findMem r.a ms) && (r.b.toList.isEmpty || decide (0 ≤ findMem r.b ms))
def codeOf (ms : List Mem) (rs : List Res) : Int :=
  if clubOk ms = false then 1 else if rs.all resOk = false then 1 else if rs.all (known ms) = false then 3 else if 200 < rs.length then 5 else 0

theorem all_take_succ {α : Type} {l : List α} {p : α → Bool} {k : Nat} (h : k < l.length) : (l.take (k + 1)).all p = ((l.take k).all p && p l[k]) := by
  rw [List.take_succ_eq_append_getElem h, List.all_append]
  simp
theorem all_bad {α : Type} {l : List α} {p : α → Bool} {k : Nat} (h : k < l.length) (hp : p l[k] = false) : l.all p = false := by
  rw [List.all_eq_false]
  exact ⟨l[k], List.getElem_mem h, by simp [hp]⟩
theorem all_done {α : Type} {l : List α} {p : α → Bool} {k : Nat} (h : ¬ k < l.length) (ha : (l.take k).all p = true) : l.all p = true := by
  rwa [List.take_of_length_le (by omega)] at ha

set_option maxHeartbeats 1000000 in
theorem l26Known_any (ms : List Mem) (pb po : Nat) (a : Option Addr) (cap : Nat) (b o : Nat) (r : Res) (w : World) (hp : w.cell? ⟨pb, po, none⟩ = some (.slice a ms.length cap)) (hm : SliceAt w 2 Mem.enc a ms) (hl : ms.length ≤ 9223372036854775807) (h : ResAt w b o r) (hf : r.fit) :
    Calls Try.prog 105 #[.pointer (some ⟨pb, po, none⟩), .pointer (some ⟨b, o, none⟩)] w fun e w' => e = .returned (.bool (resOk r && known ms r)) ∧ Drew w w' := by
  have HM := Lib.hid hm; clear hm
  cases hr : resOk r with
  | false =>
    have HR := Lib.hid hr; clear hr
    go_enter Try.func105, Try.ntmps105
    go_wp2_with fail
    refine (l26Result_any b o r _ h hf).mono ?_
    rintro e w1 ⟨rfl, hd⟩
    rw [HR.out]
    go_wp2
    go_ret
    exact ⟨rfl, hd⟩
  | true =>
    have HR := Lib.hid hr; clear hr
    go_enter Try.func105, Try.ntmps105
    go_wp2_with fail
    refine (l26Result_any b o r _ h hf).mono ?_
    rintro e w1 ⟨rfl, hd⟩
    rw [HR.out]
    obtain ⟨c0, c1, _, _⟩ := h.drew hd
    have hp1 := (hd.cell ⟨pb, po, none⟩).trans hp
    have HM1 := Lib.hid (HM.out.drew hd)
    clear h hp
    go_wp2_with (first | (go_at_call_of 60 (Value.string r.a); refine (l26Find_any ms r.a pb po a cap _ hp1 HM1.out hl).mono ?_; rintro e w' ⟨rfl, rfl⟩) | (go_at_call_of 60 (Value.string r.b); refine (l26Find_any ms r.b pb po a cap _ hp1 HM1.out hl).mono ?_; rintro e w' ⟨rfl, rfl⟩))
    all_goals
      go_ret
      refine ⟨ret_bool ?_, hd⟩
      unfold known
      rw [Bool.eq_iff_iff]
      simp [*]
      try omega

set_option maxHeartbeats 2000000 in
theorem l26Code_any (ms : List Mem) (rs : List Res) (pb po : Nat) (a ra : Option Addr) (cap rcap : Nat) (w : World) (hp : w.cell? ⟨pb, po, none⟩ = some (.slice a ms.length cap)) (hm : SliceAt w 2 Mem.enc a ms) (hr : SliceAt w 4 Res.enc ra rs)
    (hl : ms.length ≤ 1048576) (hlr : rs.length ≤ 1048576) (hf : MemsFit ms) (hfr : ResFit rs) :
    Calls Try.prog 64 #[.pointer (some ⟨pb, po, none⟩), .slice ra rs.length rcap] w fun e w' => e = .returned (.int .i64 (codeOf ms rs)) ∧ Drew w w' := by
  have HM := Lib.hid hm; clear hm
  have HRS := Lib.hid hr; clear hr
  have HFR := Lib.hid hfr; clear hfr
  cases hc : clubOk ms with
  | false =>
    have HE : Hid (codeOf ms rs = 1) := by unfold Hid codeOf; rw [if_pos hc]
    have HC := Lib.hid hc; clear hc
    go_enter Try.func64, Try.ntmps64
    go_wp2_with fail
    refine (l26Ok_any ms pb po a cap _ hp HM.out (by omega) hf).mono ?_
    rintro e w1 ⟨rfl, hd⟩
    rw [HC.out]
    go_wp2
    go_ret
    exact ⟨ret_int HE.out.symm, hd⟩
  | true =>
    have HC := Lib.hid hc; clear hc
    go_enter Try.func64, Try.ntmps64
    go_wp2_with fail
    refine (l26Ok_any ms pb po a cap _ hp HM.out (by omega) hf).mono ?_
    rintro e w1 ⟨rfl, hd1⟩
    rw [HC.out]
    go_wp2
    go_loopw [5] (fun i wr => ∃ k : Nat, k ≤ rs.length ∧ i = .int .i64 k ∧ (rs.take k).all resOk = true ∧ Drew w wr) (fun i _ => rs.length - (intOf i).toNat)
    case atStart => exact ⟨0, Nat.zero_le _, rfl, rfl, hd1⟩
    case round =>
      obtain ⟨k, hk, rfl, hall, hd⟩ := hrel
      have HA := Lib.hid hall; clear hall hd1
      by_cases hlt : k < rs.length
      · obtain ⟨xb, xo, rfl, hcs⟩ := (HRS.out.drew hd).open hlt
        have hra := resAt_of hcs hlt
        have HRA := Lib.hid hra
        clear hcs hra
        cases hv : resOk rs[k] with
        | true =>
          have HV := Lib.hid hv; clear hv
          go_wp2_with fail
          refine (l26Result_any xb _ rs[k] _ HRA.out (HFR.out _ (List.getElem_mem hlt))).mono ?_
          rintro e w2 ⟨rfl, hd2⟩
          rw [HV.out]
          go_wp2
          go_roundw
          case rel => exact ⟨k + 1, by omega, by go_num, by rw [all_take_succ hlt, HA.out, HV.out]; rfl, hd.trans hd2⟩
          case measure => simp [intOf]; omega
        | false =>
          have HE : Hid (codeOf ms rs = 1) := by unfold Hid codeOf; rw [if_neg (by rw [HC.out]; simp), if_pos (all_bad hlt hv)]
          have HV := Lib.hid hv; clear hv
          go_wp2_with fail
          refine (l26Result_any xb _ rs[k] _ HRA.out (HFR.out _ (List.getElem_mem hlt))).mono ?_
          rintro e w2 ⟨rfl, hd2⟩
          rw [HV.out]
          go_wp2
          go_ret
          exact ⟨ret_int HE.out.symm, hd.trans hd2⟩
      · have HOK := Lib.hid (all_done hlt HA.out)
        clear HA
        go_wp2
        go_loopw [6] (fun i wr => ∃ k : Nat, k ≤ rs.length ∧ i = .int .i64 k ∧ (rs.take k).all (known ms) = true ∧ Drew w wr) (fun i _ => rs.length - (intOf i).toNat)
        case atStart => exact ⟨0, Nat.zero_le _, rfl, rfl, hd⟩
        case round =>
          obtain ⟨j, hj, rfl, hall, hd3⟩ := hrel
          have HA := Lib.hid hall; clear hall hd
          have hpr := (hd3.cell ⟨pb, po, none⟩).trans hp
          have HMR := Lib.hid (HM.out.drew hd3)
          by_cases hjt : j < rs.length
          · obtain ⟨xb, xo, rfl, hcs⟩ := (HRS.out.drew hd3).open hjt
            have HRA := Lib.hid (resAt_of hcs hjt)
            clear hcs
            have hok : resOk rs[j] = true := List.all_eq_true.1 HOK.out _ (List.getElem_mem hjt)
            cases hv : known ms rs[j] with
            | true =>
              have HV : Hid ((resOk rs[j] && known ms rs[j]) = true) := by unfold Hid; rw [hok, hv]; rfl
              have HK := Lib.hid hv
              clear hv hok
              go_wp2_with fail
              refine (l26Known_any ms pb po a cap xb _ rs[j] _ hpr HMR.out (by omega) HRA.out (HFR.out _ (List.getElem_mem hjt))).mono ?_
              rintro e w2 ⟨rfl, hd2⟩
              rw [HV.out]
              go_wp2
              go_roundw
              case rel => exact ⟨j + 1, by omega, by go_num, by rw [all_take_succ hjt, HA.out, HK.out]; rfl, hd3.trans hd2⟩
              case measure => simp [intOf]; omega
            | false =>
              have HV : Hid ((resOk rs[j] && known ms rs[j]) = false) := by unfold Hid; rw [hok, hv]; rfl
              have HE : Hid (codeOf ms rs = 3) := by unfold Hid codeOf; rw [if_neg (by rw [HC.out]; simp), if_neg (by rw [HOK.out]; simp), if_pos (all_bad hjt hv)]
              clear hv hok
              go_wp2_with fail
              refine (l26Known_any ms pb po a cap xb _ rs[j] _ hpr HMR.out (by omega) HRA.out (HFR.out _ (List.getElem_mem hjt))).mono ?_
              rintro e w2 ⟨rfl, hd2⟩
              rw [HV.out]
              go_wp2
              go_ret
              exact ⟨ret_int HE.out.symm, hd3.trans hd2⟩
          · have HKN := Lib.hid (all_done hjt HA.out)
            by_cases h200 : 200 < rs.length
            · have HE : Hid (codeOf ms rs = 5) := by unfold Hid codeOf; rw [if_neg (by rw [HC.out]; simp), if_neg (by rw [HOK.out]; simp), if_neg (by rw [HKN.out]; simp), if_pos h200]
              go_wp2
              go_ret
              exact ⟨ret_int HE.out.symm, hd3⟩
            · have HE : Hid (codeOf ms rs = 0) := by unfold Hid codeOf; rw [if_neg (by rw [HC.out]; simp), if_neg (by rw [HOK.out]; simp), if_neg (by rw [HKN.out]; simp), if_neg h200]
              go_wp2
              go_ret
              exact ⟨ret_int HE.out.symm, hd3⟩

/-- where the first result that is not valid stands -/
def badFrom : List Res → Nat → Int
  | [], _ => -1
  | r :: rs, k => if resOk r = true then badFrom rs (k + 1) else (k : Int)
theorem badFrom_hit {rs : List Res} {k : Nat} (h : k < rs.length) (e : resOk rs[k] = false) : badFrom (rs.drop k) k = k := by
  rw [List.drop_eq_getElem_cons h, badFrom, if_neg (by rw [e]; exact Bool.false_ne_true)]
theorem badFrom_miss {rs : List Res} {k : Nat} (h : k < rs.length) (e : resOk rs[k] = true) : badFrom (rs.drop (k + 1)) (k + 1) = badFrom (rs.drop k) k := by
  rw [List.drop_eq_getElem_cons h, badFrom, if_pos e]
theorem badFrom_end {rs : List Res} {k : Nat} (h : ¬ k < rs.length) : badFrom (rs.drop k) k = -1 := by
  rw [List.drop_eq_nil_of_le (by omega)]
  rfl
theorem badFrom_all (rs : List Res) (k : Nat) : (rs.all resOk = true ∧ badFrom rs k = -1) ∨ (rs.all resOk = false ∧ 0 ≤ badFrom rs k) := by
  induction rs generalizing k with
  | nil => exact .inl ⟨rfl, rfl⟩
  | cons r rs ih =>
    unfold badFrom
    cases h : resOk r with
    | true =>
      rw [if_pos rfl]
      rcases ih (k + 1) with ⟨h1, h2⟩ | ⟨h1, h2⟩
      · exact .inl ⟨by simp [h, h1], h2⟩
      · exact .inr ⟨by simp only [List.all_cons, h, h1]; rfl, h2⟩
    | false =>
      rw [if_neg Bool.false_ne_true]
      exact .inr ⟨by simp [h], by omega⟩

set_option maxHeartbeats 400000 in
theorem resultsCode1_any (r : Res) (w : World) (hf : r.fit) :
    Calls Try.prog 107 #[.agg #[.string r.a, .string r.b, .int .i64 r.sa, .int .i64 r.sb]] w fun e w' => e = .returned (.bool (!resOk r)) ∧ Below w.heap.size w w' := by
  have hb0 : Below w.heap.size w (w.alloc (.cells #[.string r.a, .string r.b, .int .i64 r.sa, .int .i64 r.sb] 39)) := (Below.refl _ _).alloc (Nat.le_refl _) _
  go_enter Try.func107, Try.ntmps107
  go_wp2_with fail
  refine (validResult_any r _ hf).mono ?_
  rintro e w2 ⟨rfl, hb2⟩
  go_wp2
  go_ret
  exact ⟨rfl, hb0.trans (hb2.mono hb0.size)⟩

set_option maxHeartbeats 1000000 in
theorem indexBad_any (rs : List Res) (a : Option Addr) (cap : Nat) (w : World) (hm : SliceAt w 4 Res.enc a rs) (hl : rs.length ≤ 9223372036854775807) (hf : ResFit rs) :
    Calls Try.prog 126 #[.slice a rs.length cap, .func (.func 107) #[] #[]] w fun e w' => e = .returned (.int .i64 (badFrom rs 0)) ∧ Below w.heap.size w w' := by
  have HM := Lib.hid hm; clear hm
  have HFT := Lib.hid hf; clear hf
  go_enter Try.func126, Try.ntmps126
  go_wp2
  go_loopw [8] (fun i wr => ∃ k : Nat, k ≤ rs.length ∧ i = .int .i64 k ∧ badFrom (rs.drop k) k = badFrom rs 0 ∧ Below w.heap.size w wr) (fun i _ => rs.length - (intOf i).toNat)
  case atStart => exact ⟨0, Nat.zero_le _, rfl, rfl, Below.refl _ _⟩
  case round =>
    obtain ⟨k, hk, rfl, hf, hb⟩ := hrel
    have HF := Lib.hid hf; clear hf
    by_cases hlt : k < rs.length
    · obtain ⟨mb, mo, rfl, hc⟩ := (HM.out.kept hb).open hlt
      obtain ⟨c0, c1, c2, c3⟩ := resAt_of hc hlt
      clear hc
      cases hv : resOk rs[k] with
      | false =>
        have HV := Lib.hid hv; clear hv
        go_wp2_with fail
        refine (resultsCode1_any rs[k] _ (HFT.out _ (List.getElem_mem hlt))).mono ?_
        rintro e w2 ⟨rfl, hb2⟩
        rw [HV.out]
        go_wp2
        go_ret
        exact ⟨ret_int (by rw [← HF.out, badFrom_hit hlt HV.out]), hb.trans (hb2.mono hb.size)⟩
      | true =>
        have HV := Lib.hid hv; clear hv
        go_wp2_with fail
        refine (resultsCode1_any rs[k] _ (HFT.out _ (List.getElem_mem hlt))).mono ?_
        rintro e w2 ⟨rfl, hb2⟩
        rw [HV.out]
        go_wp2
        go_roundw
        case rel => exact ⟨k + 1, by omega, by go_num, by rw [badFrom_miss hlt HV.out]; exact HF.out, hb.trans (hb2.mono hb.size)⟩
        case measure => simp [intOf]; omega
    · go_wp2
      go_ret
      exact ⟨ret_int (by rw [← HF.out, badFrom_end hlt]), hb⟩
set_option maxHeartbeats 400000 in
theorem containsBad_any (rs : List Res) (a : Option Addr) (cap : Nat) (w : World) (hm : SliceAt w 4 Res.enc a rs) (hl : rs.length ≤ 9223372036854775807) (hf : ResFit rs) :
    Calls Try.prog 98 #[.slice a rs.length cap, .func (.func 107) #[] #[]] w fun e w' => e = .returned (.bool (!rs.all resOk)) ∧ Below w.heap.size w w' := by
  go_enter Try.func98, Try.ntmps98
  go_wp2_with fail
  refine (indexBad_any rs a cap _ hm hl hf).mono ?_
  rintro e w2 ⟨rfl, hb2⟩
  rcases badFrom_all rs 0 with ⟨h1, h2⟩ | ⟨h1, h2⟩
  · have H1 := Lib.hid h1
    rw [h2]
    clear h1 h2
    go_wp2
    go_ret
    exact ⟨ret_bool (by rw [H1.out]; rfl), hb2⟩
  · have H1 := Lib.hid h1
    clear h1
    go_wp2
    go_ret
    exact ⟨ret_bool (by rw [H1.out]; simp <;> omega), hb2⟩
end Go.Proofs.Ytpodkgfapbcmlaa

namespace Go.Proofs.Ytpodkgfapbcmlaa
open Go.ChangeShapes Go.WideShapes Go.ChangeAt Go.RowKit Go.Sort

set_option maxHeartbeats 4000000 in
theorem resultsCode_any (ms : List Mem) (rs : List Res) (a ra : Option Addr) (cap rcap : Nat) (w : World) (hm : SliceAt w 2 Mem.enc a ms) (hr : SliceAt w 4 Res.enc ra rs)
    (hl : ms.length ≤ 1048576) (hlr : rs.length ≤ 1048576) (hf : MemsFit ms) (hfr : ResFit rs) :
    Calls Try.prog 66 #[.agg #[.slice a ms.length cap], .slice ra rs.length rcap] w fun e w' => e = .returned (.int .i64 (codeOf ms rs)) ∧ Below w.heap.size w w' := by
  have HM := Lib.hid hm; clear hm
  have HRS := Lib.hid hr; clear hr
  have HFR := Lib.hid hfr; clear hfr
  have hb0 : Below w.heap.size w (w.alloc (.cells #[.slice a ms.length cap] 30)) := (Below.refl _ _).alloc (Nat.le_refl _) _
  have hc0 := cell_new0 w #[.slice a ms.length cap] 30 (i := 0) (v := .slice a ms.length cap) rfl
  cases hc : clubOk ms with
  | false =>
    have HE : Hid (codeOf ms rs = 1) := by unfold Hid codeOf; rw [if_pos hc]
    have HC := Lib.hid hc; clear hc
    go_enter Try.func66, Try.ntmps66
    go_wp2_with fail
    refine (ValidClub_any ms a cap _ (HM.out.kept hb0) (by omega) hf).mono ?_
    rintro e w1 ⟨rfl, hd⟩
    rw [HC.out]
    go_wp2
    go_ret
    exact ⟨ret_int HE.out.symm, hb0.trans (hd.mono hb0.size)⟩
  | true =>
    have HC := Lib.hid hc; clear hc
    go_enter Try.func66, Try.ntmps66
    go_wp2_with fail
    refine (ValidClub_any ms a cap _ (HM.out.kept hb0) (by omega) hf).mono ?_
    rintro e w1 ⟨rfl, hd1⟩
    rw [HC.out]
    have hb1 := hb0.trans (hd1.mono hb0.size)
    have hc1 := cell_kept hc0 hd1
    clear hc0 hd1 hb0
    go_wp2_with fail
    refine (containsBad_any rs ra rcap _ (HRS.out.kept hb1) (by omega) HFR.out).mono ?_
    rintro e w2 ⟨rfl, hd2⟩
    have hb2 := hb1.trans (hd2.mono hb1.size)
    have hc2 := cell_kept hc1 hd2
    clear hc1 hd2 hb1
    cases hall : rs.all resOk with
    | false =>
      have HE : Hid (codeOf ms rs = 1) := by unfold Hid codeOf; rw [if_neg (by rw [HC.out]; simp), if_pos hall]
      clear hall
      go_wp2
      go_ret
      exact ⟨ret_int HE.out.symm, hb2⟩
    | true =>
      have HOK := Lib.hid hall
      clear hall
      go_wp2
      go_loopw [16] (fun i wr => ∃ k : Nat, k ≤ rs.length ∧ i = .int .i64 k ∧ (rs.take k).all (known ms) = true ∧ Below w.heap.size w wr ∧ wr.cell? ⟨w.heap.size, 0, none⟩ = some (.slice a ms.length cap)) (fun i _ => rs.length - (intOf i).toNat)
      case atStart => exact ⟨0, Nat.zero_le _, rfl, rfl, hb2, hc2⟩
      case round =>
        obtain ⟨j, hj, rfl, hall, hb, hcr⟩ := hrel
        have HA := Lib.hid hall; clear hall hc2 hb2
        by_cases hjt : j < rs.length
        · obtain ⟨xb, xo, rfl, hcs⟩ := (HRS.out.kept hb).open hjt
          obtain ⟨c0, c1, c2, c3⟩ := resAt_of hcs hjt
          clear hcs
          have hx : Below wr.heap.size wr (wr.alloc (.cells #[.string rs[j].a, .string rs[j].b, .int .i64 rs[j].sa, .int .i64 rs[j].sb] 39)) := (Below.refl _ _).alloc (Nat.le_refl _) _
          have hb3 := hb.trans (hx.mono hb.size)
          have hn0 := cell_new0 wr #[.string rs[j].a, .string rs[j].b, .int .i64 rs[j].sa, .int .i64 rs[j].sb] 39 (i := 0) (v := .string rs[j].a) rfl
          have hn1 := cell_new0 wr #[.string rs[j].a, .string rs[j].b, .int .i64 rs[j].sa, .int .i64 rs[j].sb] 39 (i := 1) (v := .string rs[j].b) rfl
          have hcr3 := cell_kept hcr hx
          have HM3 := Lib.hid (HM.out.kept hb3)
          go_wp2_with fail
          generalize wr.alloc (.cells #[.string rs[j].a, .string rs[j].b, .int .i64 rs[j].sa, .int .i64 rs[j].sb] 39) = w3 at *
          refine (member_any ms rs[j].a a cap _ HM3.out (by omega)).mono ?_
          rintro e w4 ⟨rfl, hd4⟩
          have hb4 := hb3.trans (hd4.mono hb3.size)
          have hcr4 := cell_kept hcr3 hd4
          have hn4 := cell_kept hn1 hd4
          have HM4 := Lib.hid (HM3.out.kept hd4)
          clear hx hb hcr hn0 hn1 hcr3 HM3 hd4 hb3 c0 c1 c2 c3
          by_cases hfa : findMem rs[j].a ms < 0
          · have HE : Hid (codeOf ms rs = 3) := by
              unfold Hid codeOf
              rw [if_neg (by rw [HC.out]; simp), if_neg (by rw [HOK.out]; simp), if_pos (all_bad hjt (by unfold known; simp; omega))]
            go_wp2
            go_ret
            exact ⟨ret_int HE.out.symm, hb4⟩
          · cases hbe : rs[j].b.toList.isEmpty with
            | true =>
              have hbn : rs[j].b.toList = [] := List.isEmpty_iff.1 hbe
              have hne : (rs[j].b.toList != []) = false := by simp [hbn]
              have HK : Hid (known ms rs[j] = true) := by
                unfold Hid known
                rw [hbe]
                simp
                omega
              go_wp2
              go_roundw
              case rel => exact ⟨j + 1, by omega, by go_num, by rw [all_take_succ hjt, HA.out, HK.out]; rfl, hb4, hcr4⟩
              case measure => simp [intOf]; omega
            | false =>
              have hbn : ¬ rs[j].b.toList = [] := fun e => by rw [e] at hbe; simp at hbe
              have hne : (rs[j].b.toList != []) = true := by simp [hbn]
              go_wp2_with fail
              refine (member_any ms rs[j].b a cap _ HM4.out (by omega)).mono ?_
              rintro e w5 ⟨rfl, hd5⟩
              have hb5 := hb4.trans (hd5.mono hb4.size)
              have hcr5 := cell_kept hcr4 hd5
              clear hd5 hcr4 hb4
              by_cases hfb : findMem rs[j].b ms < 0
              · have HE : Hid (codeOf ms rs = 3) := by
                  unfold Hid codeOf
                  rw [if_neg (by rw [HC.out]; simp), if_neg (by rw [HOK.out]; simp), if_pos (all_bad hjt (by unfold known; rw [hbe]; simp; omega))]
                go_wp2
                go_ret
                exact ⟨ret_int HE.out.symm, hb5⟩
              · have HK : Hid (known ms rs[j] = true) := by
                  unfold Hid known
                  rw [hbe]
                  simp
                  omega
                go_wp2
                go_roundw
                case rel => exact ⟨j + 1, by omega, by go_num, by rw [all_take_succ hjt, HA.out, HK.out]; rfl, hb5, hcr5⟩
                case measure => simp [intOf]; omega
        · have HKN := Lib.hid (all_done hjt HA.out)
          by_cases h200 : 200 < rs.length
          · have HE : Hid (codeOf ms rs = 5) := by unfold Hid codeOf; rw [if_neg (by rw [HC.out]; simp), if_neg (by rw [HOK.out]; simp), if_neg (by rw [HKN.out]; simp), if_pos h200]
            go_wp2
            go_ret
            exact ⟨ret_int HE.out.symm, hb⟩
          · have HE : Hid (codeOf ms rs = 0) := by unfold Hid codeOf; rw [if_neg (by rw [HC.out]; simp), if_neg (by rw [HOK.out]; simp), if_neg (by rw [HKN.out]; simp), if_neg h200]
            go_wp2
            go_ret
            exact ⟨ret_int HE.out.symm, hb⟩
end Go.Proofs.Ytpodkgfapbcmlaa
