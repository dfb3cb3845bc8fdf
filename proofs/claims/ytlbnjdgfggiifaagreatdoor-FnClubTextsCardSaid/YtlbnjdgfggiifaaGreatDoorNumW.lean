/- Contract: the reference's number of a text (at most 18 digits, in decimal form). For every text of at most 2^20 bytes. -/
import Derived.Test.YtlbnjdgfggiifaaGreatDoorDecW
import Derived.Test.YtlbnjdgfggiifaaGreatDoorBase
import Derived.Test.YtlbnjdgfggiifaaGreatDoorSplP
import Derived.Deep.QuietTactic
import Derived.BigQuiet
import Derived.Deep.CutBlock
import Derived.Deep.DeepCutAuto
namespace Go.Proofs.YtlbnjdgfggiifaaGreatDoor
open Go.ChangeShapes Go.WideShapes Go.ChangeAt Go.RowKit Go.Sort

/-- a number, or none, in new memory -/
def NumPost (o : Option Int) (w : World) (e : Ending) (w' : World) : Prop := e = .returned (.tuple #[.int .i64 (o.getD 0), .bool o.isSome]) ∧ Below w.heap.size w w'
theorem digit_val {c : UInt8} (h : digitB c.toNat = true) : Lib.digitVal c = some (c.toNat - 48) ∧ 48 ≤ c.toNat ∧ c.toNat ≤ 57 := by
  simp only [digitB, Bool.and_eq_true, decide_eq_true_eq] at h
  have h1 : 48 ≤ c.toNat ∧ c.toNat ≤ 57 := by omega
  exact ⟨if_pos h1, h1⟩
theorem digit_none {c : UInt8} (h : digitB c.toNat = false) : Lib.digitVal c = none := by
  simp only [digitB, Bool.and_eq_false_iff, decide_eq_false_iff_not] at h
  exact if_neg (by omega)
theorem dec_stop {l : List UInt8} {i m : Nat} {c : UInt8} (h : Lib.decFrom 0 (l.take i) = some m) (hc : l[i]? = some c) (hd : Lib.digitVal c = none) : Lib.decFrom 0 l = none := by
  have hlt := (List.getElem?_eq_some_iff.1 hc).1
  have e : l = l.take i ++ c :: l.drop (i + 1) := by
    have := List.take_append_drop i l
    rw [List.drop_eq_getElem_cons hlt, (List.getElem?_eq_some_iff.1 hc).2] at this
    exact this.symm
  rw [e, decFrom_append _ _ _ _ h]
  simp only [Lib.decFrom, hd]
theorem spec_out {l : List UInt8} (h : (dropMinus l).length < 1 ∨ 18 < (dropMinus l).length) : specNum l = none := if_pos h
theorem spec_none {l t : List UInt8} (ht : t = dropMinus l) (h : Lib.decFrom 0 t = none) : specNum l = none := by
  subst ht
  unfold specNum
  split
  · rfl
  · rw [h]
theorem spec_at {l t : List UInt8} {m : Nat} {z : Int} (ht : t = dropMinus l) (h1 : 1 ≤ t.length) (h2 : t.length ≤ 18) (h : Lib.decFrom 0 t = some m) (hz : z = if t.length < l.length then -(m : Int) else m) : specNum l = if Lib.itoa z = l then some z else none := by
  subst ht hz
  unfold specNum
  rw [if_neg (by omega), h]
set_option maxRecDepth 100000 in
set_option maxHeartbeats 4000000 in
theorem l01Number_any (s : ByteArray) (w : World) (hs : s.size ≤ 1048576) : Calls Tryz.prog 38 #[.string s] w (NumPost (specNum s.data.toList) w) := by
  have hsl : s.data.toList.length = s.size := Array.length_toList
  have HSL := Lib.hid hsl
  by_cases h0 : s.size = 0
  · have he : s.data.toList = [] := List.length_eq_zero_iff.1 (by omega)
    have HN : Hid (specNum s.data.toList = none) := Lib.hid (by rw [he]; rfl)
    have hse : s.toList = [] := by rw [ByteArray.toList_eq, he]
    have hb : Below w.heap.size w w := Below.refl _ _
    clear he hsl
    go_enter Tryz.func38, Tryz.ntmps38
    go_wp2
    go_ret2
    exact ⟨by rw [HN.out]; rfl, hb⟩
  · have hpos : 0 < s.size := by omega
    have hne : s.toList.isEmpty = false := by
      rw [ByteArray.toList_eq]
      cases hl : s.data.toList with
      | nil => rw [hl] at hsl; simp at hsl; omega
      | cons a b => rfl
    have hcons : s.data.toList = s[0] :: s.data.toList.drop 1 := by
      have := List.drop_eq_getElem_cons (l := s.data.toList) (i := 0) (by omega)
      exact this
    by_cases hm : s[0] = 45
    · have e1 : ((s[0].toNat : Int) == 45) = true := by rw [hm]; rfl
      have hdm : dropMinus s.data.toList = s.data.toList.drop 1 := by
        conv => lhs; rw [hcons]
        exact if_pos hm
      have HD : Hid ((s.extract 1 s.size).data.toList = dropMinus s.data.toList) := Lib.hid (by rw [hdm, Lib.extract_to_end])
      have hxs : (s.extract 1 s.size).size = s.size - 1 := by simp [ByteArray.size_extract]
      have HTS : Hid ((s.extract 1 s.size).data.toList.length = (s.extract 1 s.size).size) := Lib.hid Array.length_toList
      have htlt : (s.extract 1 s.size).size < s.size := by omega
      clear hdm hcons hm hsl h0 hxs
      go_enter Tryz.func38, Tryz.ntmps38
      go_upto_region 4 with fail
      generalize s.extract 1 s.size = t at *
      by_cases hsz : t.size < 1 ∨ 18 < t.size
      · have HN := Lib.hid (spec_out (l := s.data.toList) (by rw [← HD.out, HTS.out]; exact hsz))
        rcases hsz with hz | hz
        · (try (exfalso; omega))
          all_goals
            go_wp2
            go_ret2
            exact ⟨by rw [HN.out]; rfl, (Below.refl _ _)⟩
        · have hz1 : ¬ t.size < 1 := by omega
          go_wp2
          go_ret2
          exact ⟨by rw [HN.out]; rfl, (Below.refl _ _)⟩
      · have hz1 : ¬ t.size < 1 := by omega
        have hz2 : ¬ 18 < t.size := by omega
        clear hsz
        go_wp2_with fail
        go_loopw [5, 6] (fun nv iv wr => ∃ (i m : Nat), i ≤ t.size ∧ iv = .int .i64 i ∧ nv = .int .i64 m ∧ Hid (Lib.decFrom 0 (t.data.toList.take i) = some m) ∧ w = wr) (fun _ iv _ => t.size - (intOf iv).toNat)
        case atStart => exact ⟨0, 0, Nat.zero_le _, rfl, rfl, Lib.hid rfl, rfl⟩
        case round =>
          obtain ⟨i, m, hi, rfl, rfl, HM, rfl⟩ := hrel
          by_cases hlt : i < t.size
          · have hm := Lib.decFrom_take_lt HM.out (by omega)
            cases hdg : digitB (t[i].toNat : Int) with
            | false =>
              have HN := Lib.hid (spec_none HD.out (dec_stop HM.out (c := t[i]) (by rw [List.getElem?_eq_getElem (by rw [HTS.out]; exact hlt)]; rfl) (digit_none hdg)))
              have HDG := Lib.hid (l01Digit_any (t[i].toNat : Int) w)
              rw [hdg] at HDG
              clear hdg hm
              go_wp2_with fail
              refine HDG.out.mono ?_
              rintro e w1 ⟨rfl, rfl⟩
              go_wp2
              go_ret2
              exact ⟨by rw [HN.out]; rfl, (Below.refl _ _)⟩
            | true =>
              obtain ⟨g1, g2, g3⟩ := digit_val hdg
              have HS := Lib.hid (Lib.decFrom_take t.data.toList i 0 m t[i] _ HM.out (by rw [List.getElem?_eq_getElem (by rw [HTS.out]; exact hlt)]; rfl) g1)
              have HDG := Lib.hid (l01Digit_any (t[i].toNat : Int) w)
              rw [hdg] at HDG
              clear hdg g1
              have hz := hz1
              go_wp2_with fail
              refine HDG.out.mono ?_
              rintro e w1 ⟨rfl, rfl⟩
              go_wp2
              go_roundw
              case rel => exact ⟨i + 1, m * 10 + (t[i].toNat - 48), by omega, by go_num, by go_num, HS, trivial⟩
              case measure => simp [intOf]; omega
          · obtain rfl : i = t.size := by omega
            have hmm := HM.out
            rw [List.take_of_length_le (by rw [HTS.out]; exact Nat.le_refl _)] at hmm
            have hm := Lib.decFrom_lt18 hmm (by rw [HTS.out]; omega)
            have HSP := Lib.hid (spec_at (l := s.data.toList) (z := (-(m : Int))) HD.out (by rw [HTS.out]; omega) (by rw [HTS.out]; omega) hmm (by (first | rw [HTS.out, HSL.out] | rw [HTS.out]); (rw [if_pos htlt])))
            have HDE := Lib.hid (l01Dec_any (-(m : Int)) (by omega) (by omega) w)
            clear hmm
            by_cases hq : Lib.itoa (-(m : Int)) = s.data.toList
            · have HN : Hid (specNum s.data.toList = some (-(m : Int))) := Lib.hid (by rw [HSP.out, if_pos hq])
              have hq1 : ((mkB (Lib.itoa (-(m : Int)))).toList != s.toList) = false := by rw [mkB_list, ByteArray.toList_eq, hq]; simp
              have hq2 : ((mkB (Lib.itoa (-(m : Int)))).toList == s.toList) = true := by rw [mkB_list, ByteArray.toList_eq, hq]; simp
              clear hq
              go_wp2_with fail
              refine HDE.out.mono ?_
              rintro e w1 ⟨rfl, hd⟩
              go_wp2
              go_ret2
              exact ⟨by rw [HN.out]; rfl, hd⟩
            · have HN : Hid (specNum s.data.toList = none) := Lib.hid (by rw [HSP.out, if_neg hq])
              have hq1 : ((mkB (Lib.itoa (-(m : Int)))).toList != s.toList) = true := by rw [mkB_list, ByteArray.toList_eq]; simpa using hq
              have hq2 : ((mkB (Lib.itoa (-(m : Int)))).toList == s.toList) = false := by rw [mkB_list, ByteArray.toList_eq]; simpa using hq
              clear hq
              go_wp2_with fail
              refine HDE.out.mono ?_
              rintro e w1 ⟨rfl, hd⟩
              go_wp2
              go_ret2
              exact ⟨by rw [HN.out]; rfl, hd⟩
    · have e1 : ((s[0].toNat : Int) == 45) = false := beq_eq_false_iff_ne.2 (fun e => hm (UInt8.toNat_inj.1 (by have h45 : (45 : UInt8).toNat = 45 := rfl; omega)))
      have hdm : dropMinus s.data.toList = s.data.toList := by
        conv => lhs; rw [hcons]
        exact (if_neg hm).trans hcons.symm
      have HD : Hid (s.data.toList = dropMinus s.data.toList) := Lib.hid hdm.symm
      have HTS := HSL
      clear hdm hcons hm hsl h0
      go_enter Tryz.func38, Tryz.ntmps38
      go_upto_region 4 with fail
      by_cases hsz : s.size < 1 ∨ 18 < s.size
      · have HN := Lib.hid (spec_out (l := s.data.toList) (by rw [← HD.out, HTS.out]; exact hsz))
        rcases hsz with hz | hz
        · (try (exfalso; omega))
          all_goals
            go_wp2
            go_ret2
            exact ⟨by rw [HN.out]; rfl, (Below.refl _ _)⟩
        · have hz1 : ¬ s.size < 1 := by omega
          go_wp2
          go_ret2
          exact ⟨by rw [HN.out]; rfl, (Below.refl _ _)⟩
      · have hz1 : ¬ s.size < 1 := by omega
        have hz2 : ¬ 18 < s.size := by omega
        clear hsz
        go_wp2_with fail
        go_loopw [5, 6] (fun nv iv wr => ∃ (i m : Nat), i ≤ s.size ∧ iv = .int .i64 i ∧ nv = .int .i64 m ∧ Hid (Lib.decFrom 0 (s.data.toList.take i) = some m) ∧ w = wr) (fun _ iv _ => s.size - (intOf iv).toNat)
        case atStart => exact ⟨0, 0, Nat.zero_le _, rfl, rfl, Lib.hid rfl, rfl⟩
        case round =>
          obtain ⟨i, m, hi, rfl, rfl, HM, rfl⟩ := hrel
          by_cases hlt : i < s.size
          · have hm := Lib.decFrom_take_lt HM.out (by omega)
            cases hdg : digitB (s[i].toNat : Int) with
            | false =>
              have HN := Lib.hid (spec_none HD.out (dec_stop HM.out (c := s[i]) (by rw [List.getElem?_eq_getElem (by rw [HTS.out]; exact hlt)]; rfl) (digit_none hdg)))
              have HDG := Lib.hid (l01Digit_any (s[i].toNat : Int) w)
              rw [hdg] at HDG
              clear hdg hm
              go_wp2_with fail
              refine HDG.out.mono ?_
              rintro e w1 ⟨rfl, rfl⟩
              go_wp2
              go_ret2
              exact ⟨by rw [HN.out]; rfl, (Below.refl _ _)⟩
            | true =>
              obtain ⟨g1, g2, g3⟩ := digit_val hdg
              have HS := Lib.hid (Lib.decFrom_take s.data.toList i 0 m s[i] _ HM.out (by rw [List.getElem?_eq_getElem (by rw [HTS.out]; exact hlt)]; rfl) g1)
              have HDG := Lib.hid (l01Digit_any (s[i].toNat : Int) w)
              rw [hdg] at HDG
              clear hdg g1
              have hz := hz1
              go_wp2_with fail
              refine HDG.out.mono ?_
              rintro e w1 ⟨rfl, rfl⟩
              go_wp2
              go_roundw
              case rel => exact ⟨i + 1, m * 10 + (s[i].toNat - 48), by omega, by go_num, by go_num, HS, trivial⟩
              case measure => simp [intOf]; omega
          · obtain rfl : i = s.size := by omega
            have hmm := HM.out
            rw [List.take_of_length_le (by rw [HTS.out]; exact Nat.le_refl _)] at hmm
            have hm := Lib.decFrom_lt18 hmm (by rw [HTS.out]; omega)
            have HSP := Lib.hid (spec_at (l := s.data.toList) (z := (m : Int)) HD.out (by rw [HTS.out]; omega) (by rw [HTS.out]; omega) hmm (by (first | rw [HTS.out, HSL.out] | rw [HTS.out]); (rw [if_neg (Nat.lt_irrefl _)])))
            have HDE := Lib.hid (l01Dec_any (m : Int) (by omega) (by omega) w)
            clear hmm
            by_cases hq : Lib.itoa (m : Int) = s.data.toList
            · have HN : Hid (specNum s.data.toList = some (m : Int)) := Lib.hid (by rw [HSP.out, if_pos hq])
              have hq1 : ((mkB (Lib.itoa (m : Int))).toList != s.toList) = false := by rw [mkB_list, ByteArray.toList_eq, hq]; simp
              have hq2 : ((mkB (Lib.itoa (m : Int))).toList == s.toList) = true := by rw [mkB_list, ByteArray.toList_eq, hq]; simp
              clear hq
              go_wp2_with fail
              refine HDE.out.mono ?_
              rintro e w1 ⟨rfl, hd⟩
              go_wp2
              go_ret2
              exact ⟨by rw [HN.out]; rfl, hd⟩
            · have HN : Hid (specNum s.data.toList = none) := Lib.hid (by rw [HSP.out, if_neg hq])
              have hq1 : ((mkB (Lib.itoa (m : Int))).toList != s.toList) = true := by rw [mkB_list, ByteArray.toList_eq]; simpa using hq
              have hq2 : ((mkB (Lib.itoa (m : Int))).toList == s.toList) = false := by rw [mkB_list, ByteArray.toList_eq]; simpa using hq
              clear hq
              go_wp2_with fail
              refine HDE.out.mono ?_
              rintro e w1 ⟨rfl, hd⟩
              go_wp2
              go_ret2
              exact ⟨by rw [HN.out]; rfl, hd⟩
end Go.Proofs.YtlbnjdgfggiifaaGreatDoor
