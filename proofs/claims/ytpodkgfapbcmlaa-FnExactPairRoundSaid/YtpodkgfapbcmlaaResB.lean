/- Contracts: the code of a club and results (program and reference). -/
import Derived.Test.YtpodkgfapbcmlaaRes
namespace Go.Proofs.Ytpodkgfapbcmlaa
open Go.ChangeShapes Go.WideShapes Go.ChangeAt Go.RowKit Go.Sort

/-- all who play are members -/
def known (ms : List Mem) (r : Res) : Bool := decide (0 ≤ findMem r.a ms) && (r.b.toList.isEmpty || decide (0 ≤ findMem r.b ms))
def codeOf (ms : List Mem) (rs : List Res) : Int :=
  if clubOk ms = false then 1 else if rs.all resOk = false then 1 else if rs.all (known ms) = false then 3 else if 200 < rs.length then 5 else 0

theorem all_take_succ {α : Type} {l : List α} {p : α → Bool} {k : Nat} (h : k < l.length) : (l.take (k + 1)).all p = ((l.take k).all p && p l[k]) := by
  rw [List.take_succ_eq_append_getElem h, List.all_append]
  simp
theorem all_bad {α : Type} {l : List α} {p : α → Bool} {k : Nat} (h : k < l.length) (hp : p l[k] = false) : l.all p = false := by
  rw [List.all_eq_false]
  exact ⟨l[k], List.getElem_mem h, by simp [hp]⟩
theorem all_done {α : Type} {l : List α} {p : α → Bool} {k : Nat} (h : ¬ k < l.length) (ha : (l.take k).all p = true) : l.all p = true := by
  rwa [List.take_of_length_le (by omega)] at ha

set_option maxHeartbeats 1000000 in
theorem l26Known_any (ms : List Mem) (pb po : Nat) (a : Option Addr) (cap : Nat) (b o : Nat) (r : Res) (w : World) (hp : w.cell? ⟨pb, po, none⟩ = some (.slice a ms.length cap)) (hm : SliceAt w 2 Mem.enc a ms) (hl : ms.length ≤ 9223372036854775807) (h : ResAt w b o r) (hf : r.fit) :
    Calls Try.prog 105 #[.pointer (some ⟨pb, po, none⟩), .pointer (some ⟨b, o, none⟩)] w fun e w' => e = .returned (.bool (resOk r && known ms r)) ∧ Drew w w' := by
  have HM := Lib.hid hm; clear hm
  cases hr : resOk r with
  | false =>
    have HR := Lib.hid hr; clear hr
    go_enter Try.func105, Try.ntmps105
    go_wp2_with fail
    refine (l26Result_any b o r _ h hf).mono ?_
    rintro e w1 ⟨rfl, hd⟩
    rw [HR.out]
    go_wp2
    go_ret
    exact ⟨rfl, hd⟩
  | true =>
    have HR := Lib.hid hr; clear hr
    go_enter Try.func105, Try.ntmps105
    go_wp2_with fail
    refine (l26Result_any b o r _ h hf).mono ?_
    rintro e w1 ⟨rfl, hd⟩
    rw [HR.out]
    obtain ⟨c0, c1, _, _⟩ := h.drew hd
    have hp1 := (hd.cell ⟨pb, po, none⟩).trans hp
    have HM1 := Lib.hid (HM.out.drew hd)
    clear h hp
    go_wp2_with (first | (go_at_call_of 60 (Value.string r.a); refine (l26Find_any ms r.a pb po a cap _ hp1 HM1.out hl).mono ?_; rintro e w' ⟨rfl, rfl⟩) | (go_at_call_of 60 (Value.string r.b); refine (l26Find_any ms r.b pb po a cap _ hp1 HM1.out hl).mono ?_; rintro e w' ⟨rfl, rfl⟩))
    all_goals
      go_ret
      refine ⟨ret_bool ?_, hd⟩
      unfold known
      rw [Bool.eq_iff_iff]
      simp [*]
      try omega

set_option maxHeartbeats 2000000 in
theorem l26Code_any (ms : List Mem) (rs : List Res) (pb po : Nat) (a ra : Option Addr) (cap rcap : Nat) (w : World) (hp : w.cell? ⟨pb, po, none⟩ = some (.slice a ms.length cap)) (hm : SliceAt w 2 Mem.enc a ms) (hr : SliceAt w 4 Res.enc ra rs)
    (hl : ms.length ≤ 1048576) (hlr : rs.length ≤ 1048576) (hf : MemsFit ms) (hfr : ResFit rs) :
    Calls Try.prog 64 #[.pointer (some ⟨pb, po, none⟩), .slice ra rs.length rcap] w fun e w' => e = .returned (.int .i64 (codeOf ms rs)) ∧ Drew w w' := by
  have HM := Lib.hid hm; clear hm
  have HRS := Lib.hid hr; clear hr
  have HFR := Lib.hid hfr; clear hfr
  cases hc : clubOk ms with
  | false =>
    have HE : Hid (codeOf ms rs = 1) := by unfold Hid codeOf; rw [if_pos hc]
    have HC := Lib.hid hc; clear hc
    go_enter Try.func64, Try.ntmps64
    go_wp2_with fail
    refine (l26Ok_any ms pb po a cap _ hp HM.out (by omega) hf).mono ?_
    rintro e w1 ⟨rfl, hd⟩
    rw [HC.out]
    go_wp2
    go_ret
    exact ⟨ret_int HE.out.symm, hd⟩
  | true =>
    have HC := Lib.hid hc; clear hc
    go_enter Try.func64, Try.ntmps64
    go_wp2_with fail
    refine (l26Ok_any ms pb po a cap _ hp HM.out (by omega) hf).mono ?_
    rintro e w1 ⟨rfl, hd1⟩
    rw [HC.out]
    go_wp2
    go_loopw [5] (fun i wr => ∃ k : Nat, k ≤ rs.length ∧ i = .int .i64 k ∧ (rs.take k).all resOk = true ∧ Drew w wr) (fun i _ => rs.length - (intOf i).toNat)
    case atStart => exact ⟨0, Nat.zero_le _, rfl, rfl, hd1⟩
    case round =>
      obtain ⟨k, hk, rfl, hall, hd⟩ := hrel
      have HA := Lib.hid hall; clear hall hd1
      by_cases hlt : k < rs.length
      · obtain ⟨xb, xo, rfl, hcs⟩ := (HRS.out.drew hd).open hlt
        have hra := resAt_of hcs hlt
        have HRA := Lib.hid hra
        clear hcs hra
        cases hv : resOk rs[k] with
        | true =>
          have HV := Lib.hid hv; clear hv
          go_wp2_with fail
          refine (l26Result_any xb _ rs[k] _ HRA.out (HFR.out _ (List.getElem_mem hlt))).mono ?_
          rintro e w2 ⟨rfl, hd2⟩
          rw [HV.out]
          go_wp2
          go_roundw
          case rel => exact ⟨k + 1, by omega, by go_num, by rw [all_take_succ hlt, HA.out, HV.out]; rfl, hd.trans hd2⟩
          case measure => simp [intOf]; omega
        | false =>
          have HE : Hid (codeOf ms rs = 1) := by unfold Hid codeOf; rw [if_neg (by rw [HC.out]; simp), if_pos (all_bad hlt hv)]
          have HV := Lib.hid hv; clear hv
          go_wp2_with fail
          refine (l26Result_any xb _ rs[k] _ HRA.out (HFR.out _ (List.getElem_mem hlt))).mono ?_
          rintro e w2 ⟨rfl, hd2⟩
          rw [HV.out]
          go_wp2
          go_ret
          exact ⟨ret_int HE.out.symm, hd.trans hd2⟩
      · have HOK := Lib.hid (all_done hlt HA.out)
        clear HA
        go_wp2
        go_loopw [6] (fun i wr => ∃ k : Nat, k ≤ rs.length ∧ i = .int .i64 k ∧ (rs.take k).all (known ms) = true ∧ Drew w wr) (fun i _ => rs.length - (intOf i).toNat)
        case atStart => exact ⟨0, Nat.zero_le _, rfl, rfl, hd⟩
        case round =>
          obtain ⟨j, hj, rfl, hall, hd3⟩ := hrel
          have HA := Lib.hid hall; clear hall hd
          have hpr := (hd3.cell ⟨pb, po, none⟩).trans hp
          have HMR := Lib.hid (HM.out.drew hd3)
          by_cases hjt : j < rs.length
          · obtain ⟨xb, xo, rfl, hcs⟩ := (HRS.out.drew hd3).open hjt
            have HRA := Lib.hid (resAt_of hcs hjt)
            clear hcs
            have hok : resOk rs[j] = true := List.all_eq_true.1 HOK.out _ (List.getElem_mem hjt)
            cases hv : known ms rs[j] with
            | true =>
              have HV : Hid ((resOk rs[j] && known ms rs[j]) = true) := by unfold Hid; rw [hok, hv]; rfl
              have HK := Lib.hid hv
              clear hv hok
              go_wp2_with fail
              refine (l26Known_any ms pb po a cap xb _ rs[j] _ hpr HMR.out (by omega) HRA.out (HFR.out _ (List.getElem_mem hjt))).mono ?_
              rintro e w2 ⟨rfl, hd2⟩
              rw [HV.out]
              go_wp2
              go_roundw
              case rel => exact ⟨j + 1, by omega, by go_num, by rw [all_take_succ hjt, HA.out, HK.out]; rfl, hd3.trans hd2⟩
              case measure => simp [intOf]; omega
            | false =>
              have HV : Hid ((resOk rs[j] && known ms rs[j]) = false) := by unfold Hid; rw [hok, hv]; rfl
              have HE : Hid (codeOf ms rs = 3) := by unfold Hid codeOf; rw [if_neg (by rw [HC.out]; simp), if_neg (by rw [HOK.out]; simp), if_pos (all_bad hjt hv)]
              clear hv hok
              go_wp2_with fail
              refine (l26Known_any ms pb po a cap xb _ rs[j] _ hpr HMR.out (by omega) HRA.out (HFR.out _ (List.getElem_mem hjt))).mono ?_
              rintro e w2 ⟨rfl, hd2⟩
              rw [HV.out]
              go_wp2
              go_ret
              exact ⟨ret_int HE.out.symm, hd3.trans hd2⟩
          · have HKN := Lib.hid (all_done hjt HA.out)
            by_cases h200 : 200 < rs.length
            · have HE : Hid (codeOf ms rs = 5) := by unfold Hid codeOf; rw [if_neg (by rw [HC.out]; simp), if_neg (by rw [HOK.out]; simp), if_neg (by rw [HKN.out]; simp), if_pos h200]
              go_wp2
              go_ret
              exact ⟨ret_int HE.out.symm, hd3⟩
            · have HE : Hid (codeOf ms rs = 0) := by unfold Hid codeOf; rw [if_neg (by rw [HC.out]; simp), if_neg (by rw [HOK.out]; simp), if_neg (by rw [HKN.out]; simp), if_neg h200]
              go_wp2
              go_ret
              exact ⟨ret_int HE.out.symm, hd3⟩

/-- where the first result that is not valid stands -/
def badFrom : List Res → Nat → Int
  | [], _ => -1
  | r :: rs, k => if resOk r = true then badFrom rs (k + 1) else (k : Int)
theorem badFrom_hit {rs : List Res} {k : Nat} (h : k < rs.length) (e : resOk rs[k] = false) : badFrom (rs.drop k) k = k := by
  rw [List.drop_eq_getElem_cons h, badFrom, if_neg (by rw [e]; exact Bool.false_ne_true)]
theorem badFrom_miss {rs : List Res} {k : Nat} (h : k < rs.length) (e : resOk rs[k] = true) : badFrom (rs.drop (k + 1)) (k + 1) = badFrom (rs.drop k) k := by
  rw [List.drop_eq_getElem_cons h, badFrom, if_pos e]
theorem badFrom_end {rs : List Res} {k : Nat} (h : ¬ k < rs.length) : badFrom (rs.drop k) k = -1 := by
  rw [List.drop_eq_nil_of_le (by omega)]
  rfl
theorem badFrom_all (rs : List Res) (k : Nat) : (rs.all resOk = true ∧ badFrom rs k = -1) ∨ (rs.all resOk = false ∧ 0 ≤ badFrom rs k) := by
  induction rs generalizing k with
  | nil => exact .inl ⟨rfl, rfl⟩
  | cons r rs ih =>
    unfold badFrom
    cases h : resOk r with
    | true =>
      rw [if_pos rfl]
      rcases ih (k + 1) with ⟨h1, h2⟩ | ⟨h1, h2⟩
      · exact .inl ⟨by simp [h, h1], h2⟩
      · exact .inr ⟨by simp only [List.all_cons, h, h1]; rfl, h2⟩
    | false =>
      rw [if_neg Bool.false_ne_true]
      exact .inr ⟨by simp [h], by omega⟩

set_option maxHeartbeats 400000 in
theorem resultsCode1_any (r : Res) (w : World) (hf : r.fit) :
    Calls Try.prog 107 #[.agg #[.string r.a, .string r.b, .int .i64 r.sa, .int .i64 r.sb]] w fun e w' => e = .returned (.bool (!resOk r)) ∧ Below w.heap.size w w' := by
  have hb0 : Below w.heap.size w (w.alloc (.cells #[.string r.a, .string r.b, .int .i64 r.sa, .int .i64 r.sb] 39)) := (Below.refl _ _).alloc (Nat.le_refl _) _
  go_enter Try.func107, Try.ntmps107
  go_wp2_with fail
  refine (validResult_any r _ hf).mono ?_
  rintro e w2 ⟨rfl, hb2⟩
  go_wp2
  go_ret
  exact ⟨rfl, hb0.trans (hb2.mono hb0.size)⟩

set_option maxHeartbeats 1000000 in
theorem indexBad_any (rs : List Res) (a : Option Addr) (cap : Nat) (w : World) (hm : SliceAt w 4 Res.enc a rs) (hl : rs.length ≤ 9223372036854775807) (hf : ResFit rs) :
    Calls Try.prog 126 #[.slice a rs.length cap, .func (.func 107) #[] #[]] w fun e w' => e = .returned (.int .i64 (badFrom rs 0)) ∧ Below w.heap.size w w' := by
  have HM := Lib.hid hm; clear hm
  have HFT := Lib.hid hf; clear hf
  go_enter Try.func126, Try.ntmps126
  go_wp2
  go_loopw [8] (fun i wr => ∃ k : Nat, k ≤ rs.length ∧ i = .int .i64 k ∧ badFrom (rs.drop k) k = badFrom rs 0 ∧ Below w.heap.size w wr) (fun i _ => rs.length - (intOf i).toNat)
  case atStart => exact ⟨0, Nat.zero_le _, rfl, rfl, Below.refl _ _⟩
  case round =>
    obtain ⟨k, hk, rfl, hf, hb⟩ := hrel
    have HF := Lib.hid hf; clear hf
    by_cases hlt : k < rs.length
    · obtain ⟨mb, mo, rfl, hc⟩ := (HM.out.kept hb).open hlt
      obtain ⟨c0, c1, c2, c3⟩ := resAt_of hc hlt
      clear hc
      cases hv : resOk rs[k] with
      | false =>
        have HV := Lib.hid hv; clear hv
        go_wp2_with fail
        refine (resultsCode1_any rs[k] _ (HFT.out _ (List.getElem_mem hlt))).mono ?_
        rintro e w2 ⟨rfl, hb2⟩
        rw [HV.out]
        go_wp2
        go_ret
        exact ⟨ret_int (by rw [← HF.out, badFrom_hit hlt HV.out]), hb.trans (hb2.mono hb.size)⟩
      | true =>
        have HV := Lib.hid hv; clear hv
        go_wp2_with fail
        refine (resultsCode1_any rs[k] _ (HFT.out _ (List.getElem_mem hlt))).mono ?_
        rintro e w2 ⟨rfl, hb2⟩
        rw [HV.out]
        go_wp2
        go_roundw
        case rel => exact ⟨k + 1, by omega, by go_num, by rw [badFrom_miss hlt HV.out]; exact HF.out, hb.trans (hb2.mono hb.size)⟩
        case measure => simp [intOf]; omega
    · go_wp2
      go_ret
      exact ⟨ret_int (by rw [← HF.out, badFrom_end hlt]), hb⟩
set_option maxHeartbeats 400000 in
theorem containsBad_any (rs : List Res) (a : Option Addr) (cap : Nat) (w : World) (hm : SliceAt w 4 Res.enc a rs) (hl : rs.length ≤ 9223372036854775807) (hf : ResFit rs) :
    Calls Try.prog 98 #[.slice a rs.length cap, .func (.func 107) #[] #[]] w fun e w' => e = .returned (.bool (!rs.all resOk)) ∧ Below w.heap.size w w' := by
  go_enter Try.func98, Try.ntmps98
  go_wp2_with fail
  refine (indexBad_any rs a cap _ hm hl hf).mono ?_
  rintro e w2 ⟨rfl, hb2⟩
  rcases badFrom_all rs 0 with ⟨h1, h2⟩ | ⟨h1, h2⟩
  · have H1 := Lib.hid h1
    rw [h2]
    clear h1 h2
    go_wp2
    go_ret
    exact ⟨ret_bool (by rw [H1.out]; rfl), hb2⟩
  · have H1 := Lib.hid h1
    clear h1
    go_wp2
    go_ret
    exact ⟨ret_bool (by rw [H1.out]; simp <;> omega), hb2⟩
end Go.Proofs.Ytpodkgfapbcmlaa
