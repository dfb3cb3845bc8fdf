/- Contract: the reference's parts of a text between bytes. For every text of at most 2^20 bytes. -/
import Derived.Test.YtlbnjdgfggiifaaGreatDoorByt
import Derived.Test.YtlbnjdgfggiifaaGreatDoorSplP
import Derived.Test.YtlbnjdgfggiifaaGreatDoorVar
import Derived.Test.YtlbnjdgfggiifaaGreatDoorTx
import Derived.Handy
import Derived.OwnWalk
import Derived.Deep.DeepMust
import Derived.Laws.AppendOwn
namespace Go.Proofs.YtlbnjdgfggiifaaGreatDoor
open Go.ChangeShapes Go.WideShapes Go.ChangeAt Go.RowKit Go.Sort

theorem piece_data (s : ByteArray) (f i : Nat) : (s.extract f i).data.toList = (s.data.toList.take i).drop f := by
  rw [ByteArray.data_extract, Array.toList_extract, List.drop_take]
theorem take_byteW (s : ByteArray) (k : Nat) (h : k < s.size) : s.data.toList.take (k + 1) = s.data.toList.take k ++ [s[k]] := by
  rw [List.take_succ_eq_append_getElem (by simpa using h)]; rfl
theorem last_drop {l : List UInt8} {f i : Nat} {b : UInt8} (h : l.take (i + 1) = l.take i ++ [b]) (hf : f ≤ i) (hi : i < l.length) : (l.take (i + 1)).drop f = (l.take i).drop f ++ [b] := by
  rw [h, List.drop_append_of_le_length (by rw [List.length_take]; omega)]
set_option maxRecDepth 100000 in
set_option maxHeartbeats 2000000 in
theorem l01Split_any (s : ByteArray) (c : UInt8) (w : World) (hs : s.size ≤ 1048576) :
    Calls Tryz.prog 37 #[.string s, .int .u8 (c.toNat : Int)] w (TextsPost w ((splitL c s.data.toList).map mkB)) := by
  obtain ⟨i0, hi0, hi1, hi2, hi3⟩ := info_parts infoTx
  have hsl : s.data.toList.length = s.size := Array.length_toList
  have HSL := Lib.hid hsl
  clear hsl
  have hb0 : Below w.heap.size w (w.alloc (.cells #[] 9)) := (Below.refl _ _).alloc (Nat.le_refl _) _
  have HR := Lib.hid (World.ownsRow_made (base := w.heap.size) (e := 9) (size := 1) w #[] 0 (by simp) (by unfold maxLen; omega) rfl)
  go_enter Tryz.func37, Tryz.ntmps37
  go_wp2_with fail
  go_loopw [5, 6, 7] (fun ov fv iv wr => ∃ (i f : Nat) (xs : List ByteArray) (g cap : Nat), i ≤ s.size ∧ f ≤ i ∧ iv = .int .i64 i ∧ fv = .int .i64 f ∧ ov = .slice (some ⟨g, 0, none⟩) xs.length cap ∧ xs.length ≤ i ∧
    Hid (splitL c (s.data.toList.take i) = xs.map (·.data.toList) ++ [(s.data.toList.take i).drop f]) ∧ Hid (wr.ownsRow w.heap.size 9 1 (.slice (some ⟨g, 0, none⟩) xs.length cap) xs.length (xs.flatMap Tx.enc)) ∧ Below w.heap.size w wr) (fun _ _ iv _ => s.size - (intOf iv).toNat)
  case atStart => exact ⟨0, 0, [], _, _, Nat.zero_le _, Nat.le_refl _, rfl, rfl, rfl, Nat.le_refl _, Lib.hid rfl, HR, hb0⟩
  case round =>
    clear HR hb0
    obtain ⟨i, f, xs, g, cap, hi, hf, rfl, rfl, rfl, hxl, HT, HR, hb⟩ := hrel
    by_cases hlt : i < s.size
    · have HTB := Lib.hid (take_byteW s i hlt)
      by_cases hc : s[i] = c
      · have e1 : ((s[i].toNat : Int) == (c.toNat : Int)) = true := by rw [hc]; simp
        have HP := Lib.hid (piece_data s f i)
        have HN : Hid (splitL c (s.data.toList.take (i + 1)) = (xs ++ [s.extract f i]).map (·.data.toList) ++ [(s.data.toList.take (i + 1)).drop (i + 1)]) := Lib.hid (by
          have e9 : (s.data.toList.take (i + 1)).drop (i + 1) = [] := List.drop_eq_nil_of_le (List.length_take_le _ _)
          rw [e9, HTB.out, hc, split_snoc_same, HT.out, List.map_append, List.map_cons, List.map_nil, HP.out])
        clear hc HTB HP HT
        have hx : Below wr.heap.size wr (wr.alloc (.cells #[.string (s.extract f i)] 9)) := (Below.refl _ _).alloc (Nat.le_refl _) _
        have KN := Lib.hid (new_tx wr (s.extract f i) 9)
        have hsz := hb.size
        replace HR := Lib.hid (own_below HR.out hx)
        replace hb := hb.trans (hx.mono hb.size)
        clear hx
        go_wp2_with (at_builtin; go_must (refine wpList_append_own _ rfl (.tmp 20) (.tmp 25) 61 rfl w.heap.size 9 i0 _ 1 16 Tryz.underlying61 hi0 hi1 hi2 hi3 rfl (by decide) _ xs.length (xs.flatMap Tx.enc) (by rfl) HR.out ⟨wr.heap.size, 0, none⟩ 1 1 (Tx.enc (s.extract f i)) (by rfl) rfl KN.out (tx_one (s.extract f i)) ?c1 ?c2 ?c3 ?_))
        case c1 => unfold maxLen; omega
        case c2 => omega
        case c3 => simp; omega
        intro v' w7 hown hgr hnil
        obtain ⟨g7, cap7, rfl, _⟩ := own_some hown (fun e => by have h := hnil; rw [e] at h; simp at h)
        have hb7 := hb.grown hgr hb.size (fun q e => (HR.out.lt q e).1)
        have HL7 : Hid ((xs ++ [(s.extract f i)]).length = xs.length + 1) := Lib.hid (by simp)
        have HR7 := Lib.hid (own_as hown (flat_snoc Tx.enc xs _))
        clear hown hgr hnil KN HR hb
        go_wp2
        go_roundw
        case rel => exact ⟨i + 1, i + 1, xs ++ [s.extract f i], g7, cap7, by omega, Nat.le_refl _, by go_num, by go_num, by rw [HL7.out], by rw [HL7.out]; omega, HN, by have h := HR7.out; rw [HL7.out]; exact Lib.hid h, hb7⟩
        case measure => simp [intOf]; omega
      · have e1 : ((s[i].toNat : Int) == (c.toNat : Int)) = false := beq_eq_false_iff_ne.2 (fun e => hc (UInt8.toNat_inj.1 (by omega)))
        have HN : Hid (splitL c (s.data.toList.take (i + 1)) = xs.map (·.data.toList) ++ [(s.data.toList.take (i + 1)).drop f]) := Lib.hid (by
          rw [last_drop HTB.out hf (by rw [HSL.out]; exact hlt), HTB.out]
          exact split_snoc_other hc HT.out)
        clear hc HTB HT
        go_wp2
        go_roundw
        case rel => exact ⟨i + 1, f, xs, g, cap, by omega, by omega, by go_num, rfl, rfl, by omega, HN, HR, hb⟩
        case measure => simp [intOf]; omega
    · obtain rfl : i = s.size := by omega
      have HP := Lib.hid (piece_data s f s.size)
      have HE : Hid ((splitL c s.data.toList).map mkB = xs ++ [s.extract f s.size]) := Lib.hid (by
        have h := HT.out
        rw [List.take_of_length_le (by rw [HSL.out]; exact Nat.le_refl _)] at h
        rw [h, List.map_append, List.map_map, List.map_cons, List.map_nil]
        have h2 := HP.out
        rw [List.take_of_length_le (by rw [HSL.out]; exact Nat.le_refl _)] at h2
        rw [← h2, mkB_of]
        congr 1
        rw [show (mkB ∘ fun x : ByteArray => x.data.toList) = id from funext mkB_of, List.map_id])
      clear HT HP
      have hx : Below wr.heap.size wr (wr.alloc (.cells #[.string (s.extract f s.size)] 9)) := (Below.refl _ _).alloc (Nat.le_refl _) _
      have KN := Lib.hid (new_tx wr (s.extract f s.size) 9)
      have hsz := hb.size
      replace HR := Lib.hid (own_below HR.out hx)
      replace hb := hb.trans (hx.mono hb.size)
      clear hx
      go_wp2_with (at_builtin; go_must (refine wpList_append_own _ rfl (.tmp 29) (.tmp 33) 61 rfl w.heap.size 9 i0 _ 1 16 Tryz.underlying61 hi0 hi1 hi2 hi3 rfl (by decide) _ xs.length (xs.flatMap Tx.enc) (by rfl) HR.out ⟨wr.heap.size, 0, none⟩ 1 1 (Tx.enc (s.extract f s.size)) (by rfl) rfl KN.out (tx_one (s.extract f s.size)) ?c1 ?c2 ?c3 ?_))
      case c1 => unfold maxLen; omega
      case c2 => omega
      case c3 => simp; omega
      intro v' w7 hown hgr hnil
      obtain ⟨g7, cap7, rfl, _⟩ := own_some hown (fun e => by have h := hnil; rw [e] at h; simp at h)
      have hb7 := hb.grown hgr hb.size (fun q e => (HR.out.lt q e).1)
      have HL7 : Hid ((xs ++ [(s.extract f s.size)]).length = xs.length + 1) := Lib.hid (by simp)
      have HR7 := Lib.hid (own_as hown (flat_snoc Tx.enc xs _))
      clear hown hgr hnil KN HR hb
      go_wp2
      go_ret
      refine ⟨g7, cap7, ?_, ?_, hb7⟩
      · rw [HE.out, HL7.out]; rfl
      · rw [HE.out, HL7.out]; exact HR7.out
end Go.Proofs.YtlbnjdgfggiifaaGreatDoor
