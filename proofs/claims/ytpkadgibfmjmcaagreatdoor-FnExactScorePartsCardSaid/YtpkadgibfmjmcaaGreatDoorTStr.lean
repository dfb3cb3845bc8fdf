/- The statements' own functions on []string (sz, to, eq, mark, held): what they compute. No condition but bounds on sizes. -/
import Derived.Test.YtpkadgibfmjmcaaGreatDoorTx
import Derived.Test.YtpkadgibfmjmcaaGreatDoorText
namespace Go.Proofs.YtpkadgibfmjmcaaGreatDoor
open Go.ChangeShapes Go.WideShapes Go.ChangeAt Go.RowKit Go.Sort

set_option maxHeartbeats 1000000 in
theorem szStringS_any (ms : List ByteArray) (a : Option Addr) (cap : Nat) (left : Int) (w : World) (hm : SliceAt w 1 Tx.enc a ms) (hl : ms.length ≤ 9223372036854775807) (hf : ∀ m ∈ ms, m.size ≤ 9223372036854775807) (h0 : 0 ≤ left) (h1 : left ≤ 1048576) :
    Calls Tryz.prog 52 #[.slice a ms.length cap, .int .i64 left] w (SzPost w left (ms.length + szAll ByteArray.size ms)) := by
  have HM := Lib.hid hm; clear hm
  have HF := Lib.hid hf; clear hf
  by_cases hlen : left - ms.length < 0
  · go_enter Tryz.func52, Tryz.ntmps52
    go_wp2
    go_ret
    exact ⟨_, rfl, .inl rfl, Below.refl _ _⟩
  · go_enter Tryz.func52, Tryz.ntmps52
    go_wp2
    go_loopw [1, 5] (fun l i wr => ∃ (k : Nat) (r : Int), k ≤ ms.length ∧ i = .int .i64 k ∧ l = .int .i64 r ∧ 0 ≤ r ∧ r + ms.length + szAll ByteArray.size (ms.take k) = left ∧ Below w.heap.size w wr) (fun _ i _ => ms.length - (intOf i).toNat)
    case atStart => exact ⟨0, left - ms.length, Nat.zero_le _, rfl, rfl, by omega, by simp [szAll], Below.refl _ _⟩
    case round =>
      obtain ⟨k, r, hk, rfl, rfl, hr0, hr, hb⟩ := hrel
      have hr1 : r ≤ 1048576 := by omega
      have HR := Lib.hid hr; clear hr
      by_cases hlt : k < ms.length
      · obtain ⟨mb, mo, rfl, hc⟩ := (HM.out.kept hb).open hlt
        have hc0 := hc.at0 hlt rfl
        rw [Nat.mul_one] at hc0
        have hfk := HF.out _ (List.getElem_mem hlt)
        have HK := Lib.hid (szAll_take (f := ByteArray.size) hlt)
        generalize ms[k] = m at *
        clear hc
        by_cases hr2 : r - m.size < 0
        · go_wp2
          go_ret
          exact ⟨_, rfl, .inl rfl, hb⟩
        · go_wp2
          go_roundw
          case rel => exact ⟨k + 1, r - m.size, by omega, by go_num, rfl, by omega, by rw [HK.out]; have := HR.out; omega, hb⟩
          case measure => simp [intOf]; omega
      · go_wp2
        go_ret
        refine ⟨_, rfl, .inr ⟨hr0, ?_⟩, hb⟩
        have := HR.out
        rw [List.take_of_length_le (by omega)] at this
        omega

set_option maxHeartbeats 1000000 in
theorem toStringS_any (ms : List ByteArray) (a : Option Addr) (cap : Nat) (w : World) (hm : SliceAt w 1 Tx.enc a ms) (hl : ms.length ≤ 1048576) :
    Calls Tryz.prog 57 #[.slice a ms.length cap] w (RowPost w 9 1 Tx.enc ms) := by
  have HM := Lib.hid hm; clear hm
  obtain ⟨i0, hi, hz0, hz1, hz2⟩ := info_parts infoTx
  go_enter Tryz.func57, Tryz.ntmps57
  go_wp2_with (refine wpList_make_full _ rfl _ _ 45 rfl w.heap.size 9 i0 _ 1 Tryz.underlying45 hi hz0 hz1 .i64 .i64 _ _ ms.length rfl rfl rfl rfl ?c1 ?c2 (Nat.le_refl _) ?_)
  case c1 => rw [hz2]; omega
  case c2 => unfold maxLen; omega
  intro w1 hown hgr
  obtain ⟨Z, hZ, hown⟩ : ∃ Z : List Value, Z.length = ms.length * 1 ∧ w1.ownsRow w.heap.size 9 1 (.slice (some ⟨w.heap.size, 0, none⟩) ms.length ms.length) ms.length Z := ⟨_, by simp [size_madeCells], hown⟩
  have HZ := Lib.hid hZ; clear hZ
  have hbw : Below w.heap.size w w1 := ⟨hgr.os, hgr.tape, hgr.output, hgr.size, fun k hk => hgr.block k hk (by simp)⟩
  have HO : Hid (w1.ownsRow w.heap.size 9 1 (.slice (some ⟨w.heap.size, 0, none⟩) ms.length ms.length) ms.length ((ms.take 0).flatMap Tx.enc ++ Z.drop (0 * 1))) := by simpa [Hid] using hown
  clear hown hgr
  go_wp2
  go_loopw [4] (fun i wr => ∃ k : Nat, k ≤ ms.length ∧ i = .int .i64 k ∧ Hid (wr.ownsRow w.heap.size 9 1 (.slice (some ⟨w.heap.size, 0, none⟩) ms.length ms.length) ms.length ((ms.take k).flatMap Tx.enc ++ Z.drop (k * 1))) ∧ Below w.heap.size w wr) (fun i _ => ms.length - (intOf i).toNat)
  case atStart => exact ⟨0, Nat.zero_le _, rfl, HO, hbw⟩
  case round =>
    obtain ⟨k, hk, rfl, ho, hb⟩ := hrel
    by_cases hlt : k < ms.length
    · obtain ⟨mb, mo, rfl, hc⟩ := (HM.out.kept hb).open hlt
      have hc0 := hc.at0 hlt rfl
      clear hc
      rw [Nat.mul_one] at hc0
      obtain ⟨v0, hv0⟩ := own_has (j := k) ho.out (by omega)
      have f0 := ho.out.frozenAt k
      obtain ⟨ho3, hg3⟩ := own_put (sz := 1) Tx.enc_len HZ.out hlt ho.out
      have ho3' : (wr.setCell ⟨w.heap.size, k, none⟩ (.string ms[k])).ownsRow w.heap.size 9 1 (.slice (some ⟨w.heap.size, 0, none⟩) ms.length ms.length) ms.length ((ms.take (k + 1)).flatMap Tx.enc ++ Z.drop ((k + 1) * 1)) := by
        have h := ho3; rw [Nat.mul_one] at h; exact h
      have hg3' : wr.grownBy (wr.setCell ⟨w.heap.size, k, none⟩ (.string ms[k])) (some w.heap.size) := by
        have h := hg3; rw [Nat.mul_one] at h; exact h
      have HO3 := Lib.hid ho3'
      have HG3 := Lib.hid hg3'
      clear ho3 hg3 ho3' hg3'
      generalize ms[k] = m at *
      go_wp2
      go_roundw
      case rel => exact ⟨k + 1, by omega, by go_num, HO3, below_grown hb hb.size HG3.out (Nat.le_refl _)⟩
      case measure => simp [intOf]; omega
    · have ho2 := ho.out
      rw [row_end ms Z HZ.out hlt] at ho2
      have HO2 := Lib.hid ho2
      clear ho2
      go_wp2
      go_ret
      exact ⟨_, rfl, HO2.out, hb⟩

set_option maxHeartbeats 1000000 in
theorem eqStringS_any (ms : List ByteArray) (a b : Option Addr) (capa capb : Nat) (w : World) (ha : SliceAt w 1 Tx.enc a ms) (hb : SliceAt w 1 Tx.enc b ms) (hl : ms.length ≤ 9223372036854775807) :
    Calls Tryz.prog 62 #[.slice a ms.length capa, .slice b ms.length capb] w fun e w' => e = .returned (.bool true) ∧ Below w.heap.size w w' := by
  have HA := Lib.hid ha; clear ha
  have HB := Lib.hid hb; clear hb
  go_enter Tryz.func62, Tryz.ntmps62
  go_wp2
  go_loopw [5] (fun i wr => ∃ k : Nat, k ≤ ms.length ∧ i = .int .i64 k ∧ Below w.heap.size w wr) (fun i _ => ms.length - (intOf i).toNat)
  case atStart => exact ⟨0, Nat.zero_le _, rfl, Below.refl _ _⟩
  case round =>
    obtain ⟨k, hk, rfl, hb⟩ := hrel
    by_cases hlt : k < ms.length
    · obtain ⟨xb, xo, rfl, hc⟩ := (HA.out.kept hb).open hlt
      obtain ⟨yb, yo, rfl, hd⟩ := (HB.out.kept hb).open hlt
      have c0 := hc.at0 hlt (v := .string ms[k]) rfl
      have d0 := hd.at0 hlt (v := .string ms[k]) rfl
      clear hc hd
      rw [Nat.mul_one] at c0 d0
      generalize ms[k] = m at *
      go_wp2_with fail
      go_quiet (fail)
      go_wp2
      go_roundw
      case rel => exact ⟨k + 1, by omega, by go_num, by first | exact hb | exact hb.trans (Drew.below ⟨_, rfl⟩ _)⟩
      case measure => simp [intOf]; omega
    · go_wp2
      go_ret
      exact ⟨rfl, hb⟩

/-- elements that bear the marks from c on; n of them -/
def Tx.marks (c : Int) (n : Nat) : List ByteArray := (List.range n).map fun (i : Nat) => mtext (c + i).toNat
theorem Tx.marks_len (c : Int) (n : Nat) : (Tx.marks c n).length = n := by simp [Tx.marks]
theorem Tx.marks_get (c : Int) (n : Nat) {k : Nat} (h : k < (Tx.marks c n).length) : (Tx.marks c n)[k] = mtext (c + k).toNat := by simp [Tx.marks]

end Go.Proofs.YtpkadgibfmjmcaaGreatDoor
