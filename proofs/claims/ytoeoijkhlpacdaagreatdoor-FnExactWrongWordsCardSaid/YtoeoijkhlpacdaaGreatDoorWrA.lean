/- Contracts: the reference's look-up in a lexicon; the words that a valid play forms and a valid lexicon does not have. -/
import Derived.Test.YtoeoijkhlpacdaaGreatDoorWrP
namespace Go.Proofs.YtoeoijkhlpacdaaGreatDoor
open Go.ChangeShapes Go.WideShapes Go.ChangeAt Go.RowKit Go.Sort

theorem str_dec (x y : ByteArray) : (x.toList == y.toList) = decide (x = y) := by
  rw [Bool.eq_iff_iff, beq_iff_eq, decide_eq_true_eq, ByteArray.toList_eq, ByteArray.toList_eq]
  constructor
  · intro h
    have := congrArg List.toArray h
    cases x; cases y
    simpa using this
  · rintro rfl; rfl
theorem getD_any {ws : List ByteArray} {i : Nat} (h : i < ws.length) (x y : ByteArray) : ws.getD i x = ws.getD i y := by
  rw [List.getD_eq_getElem?_getD, List.getD_eq_getElem?_getD, List.getElem?_eq_getElem h]
  rfl
set_option maxHeartbeats 2000000 in
theorem l05First_any (ws : List ByteArray) (a : Option Addr) (cap : Nat) (x : ByteArray) (w : World) (hm : SliceAt w 1 Tx.enc a ws) (hi : lexOk ws = true) :
    Calls Tryz.prog 187 #[.slice a ws.length cap, .string x] w fun e w' => e = .returned (.int .i64 (findW ws x : Nat)) ∧ w = w' := by
  have hl := len_of_lex hi
  have HI := Lib.hid (inc_of_lex hi)
  have HM := Lib.hid hm
  clear hm hi
  go_enter Tryz.func187, Tryz.ntmps187
  go_wp2_with fail
  go_loopw [5] (fun i wr => ∃ k : Nat, k ≤ ws.length ∧ i = .int .i64 k ∧ Hid (∀ t, t < k → lessW ws x t = true) ∧ w = wr) (fun i _ => ws.length - (intOf i).toNat)
  case atStart => exact ⟨0, Nat.zero_le _, rfl, Lib.hid (fun t h => absurd h (Nat.not_lt_zero _)), rfl⟩
  case round =>
    obtain ⟨k, hk, rfl, HA, hw⟩ := hrel
    subst hw
    by_cases hlt : k < ws.length
    · obtain ⟨b, o, rfl, hc⟩ := HM.out.open hlt
      have c0 := words_cell hc hlt
      rw [getD_any hlt _ x] at c0
      have HLW : Hid (lessW ws x k = Op.bytesLess (ws.getD k x).toList x.toList) := Lib.hid rfl
      clear hc
      generalize ws.getD k x = y at *
      cases hv : Op.bytesLess y.toList x.toList with
      | true =>
        have HA2 : Hid (∀ t, t < k + 1 → lessW ws x t = true) := Lib.hid (fun t h => by
          by_cases e : t = k
          · rw [e, HLW.out, hv]
          · exact HA.out t (by omega))
        clear HA
        go_wp2
        go_roundw
        case rel => exact ⟨k + 1, by omega, by go_num, HA2, by trivial⟩
        case measure => simp [intOf]; omega
      | false =>
        have HE : Hid (findW ws x = k) := Lib.hid (firstW_eq HI.out hk HA.out (fun _ => HLW.out.trans hv))
        go_wp2
        go_ret
        exact ⟨by rw [HE.out]; rfl, rfl⟩
    · have HE : Hid (findW ws x = k) := Lib.hid (firstW_eq HI.out hk HA.out (fun h => absurd h hlt))
      go_wp2
      go_ret
      exact ⟨by rw [HE.out]; rfl, rfl⟩
theorem findW_le {ws : List ByteArray} {x : ByteArray} {k : Nat} (h : findW ws x = k) : hasW ws x = decide (k < ws.length ∧ ws.getD k x = x) := by unfold hasW; rw [h]
set_option maxHeartbeats 2000000 in
theorem l05Has_any (ws : List ByteArray) (a : Option Addr) (cap : Nat) (x : ByteArray) (w : World) (hm : SliceAt w 1 Tx.enc a ws) (hi : lexOk ws = true) :
    Calls Tryz.prog 121 #[.slice a ws.length cap, .string x] w fun e w' => e = .returned (.bool (hasW ws x)) ∧ w = w' := by
  have HF : Hid (Calls Tryz.prog 187 #[.slice a ws.length cap, .string x] w fun e w' => e = .returned (.int .i64 (findW ws x : Nat)) ∧ w = w') := Lib.hid (l05First_any ws a cap x w hm hi)
  have hl := len_of_lex hi
  obtain ⟨k, hk⟩ : ∃ k, findW ws x = k := ⟨_, rfl⟩
  have HH := Lib.hid (findW_le hk)
  rw [hk] at HF
  have HM := Lib.hid hm
  clear hm hk hi
  go_enter Tryz.func121, Tryz.ntmps121
  go_wp2_with fail
  refine (HF.out).mono ?_
  rintro e w' ⟨rfl, rfl⟩
  by_cases hlt : k < ws.length
  · obtain ⟨b, o, rfl, hc⟩ := HM.out.open hlt
    have c0 := words_cell hc hlt
    rw [getD_any hlt _ x] at c0
    have HE : Hid (hasW ws x = ((ws.getD k x).toList == x.toList)) := Lib.hid (by rw [HH.out, str_dec, decide_eq_decide]; exact ⟨fun h => h.2, fun h => ⟨hlt, h⟩⟩)
    clear hc HH
    generalize ws.getD k x = y at *
    go_wp2
    go_ret
    exact ⟨ret_bool HE.out.symm, rfl⟩
  · have HE : Hid (hasW ws x = false) := Lib.hid (by rw [HH.out]; exact decide_eq_false fun h => hlt h.1)
    go_wp2
    go_ret
    exact ⟨ret_bool HE.out.symm, rfl⟩
end Go.Proofs.YtoeoijkhlpacdaaGreatDoor
