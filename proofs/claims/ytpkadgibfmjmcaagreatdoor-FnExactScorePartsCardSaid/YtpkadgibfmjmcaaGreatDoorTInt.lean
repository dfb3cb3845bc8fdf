/- The statements' own functions on []int64 (sz, to, eq, mark, held): what they compute. No condition but bounds on sizes. -/
import Derived.Test.YtpkadgibfmjmcaaGreatDoorTx
import Derived.Test.YtpkadgibfmjmcaaGreatDoorText
namespace Go.Proofs.YtpkadgibfmjmcaaGreatDoor
open Go.ChangeShapes Go.WideShapes Go.ChangeAt Go.RowKit Go.Sort

set_option maxHeartbeats 1000000 in
theorem szInt64S_any (ms : List Int) (a : Option Addr) (cap : Nat) (left : Int) (w : World) (hl : ms.length ≤ 9223372036854775807) (h0 : 0 ≤ left) (h1 : left ≤ 1048576) :
    Calls Tryz.prog 44 #[.slice a ms.length cap, .int .i64 left] w (SzPost w left ms.length) := by
  go_enter Tryz.func44, Tryz.ntmps44
  go_wp2
  all_goals
    go_ret
    first
      | exact ⟨_, rfl, .inl rfl, Below.refl _ _⟩
      | exact ⟨_, rfl, .inr ⟨by omega, by omega⟩, Below.refl _ _⟩

set_option maxHeartbeats 1000000 in
theorem toInt64S_any (ms : List Int) (a : Option Addr) (cap : Nat) (w : World) (hm : SliceAt w 1 I64.enc a ms) (hl : ms.length ≤ 1048576) :
    Calls Tryz.prog 49 #[.slice a ms.length cap] w (RowPost w 2 1 I64.enc ms) := by
  have HM := Lib.hid hm; clear hm
  obtain ⟨i0, hi, hz0, hz1, hz2⟩ := info_parts infoI64
  go_enter Tryz.func49, Tryz.ntmps49
  go_wp2_with (refine wpList_make_full _ rfl _ _ 22 rfl w.heap.size 2 i0 _ 1 Tryz.underlying22 hi hz0 hz1 .i64 .i64 _ _ ms.length rfl rfl rfl rfl ?c1 ?c2 (Nat.le_refl _) ?_)
  case c1 => rw [hz2]; omega
  case c2 => unfold maxLen; omega
  intro w1 hown hgr
  obtain ⟨Z, hZ, hown⟩ : ∃ Z : List Value, Z.length = ms.length * 1 ∧ w1.ownsRow w.heap.size 2 1 (.slice (some ⟨w.heap.size, 0, none⟩) ms.length ms.length) ms.length Z := ⟨_, by simp [size_madeCells], hown⟩
  have HZ := Lib.hid hZ; clear hZ
  have hbw : Below w.heap.size w w1 := ⟨hgr.os, hgr.tape, hgr.output, hgr.size, fun k hk => hgr.block k hk (by simp)⟩
  have HO : Hid (w1.ownsRow w.heap.size 2 1 (.slice (some ⟨w.heap.size, 0, none⟩) ms.length ms.length) ms.length ((ms.take 0).flatMap I64.enc ++ Z.drop (0 * 1))) := by simpa [Hid] using hown
  clear hown hgr
  go_wp2
  go_loopw [4] (fun i wr => ∃ k : Nat, k ≤ ms.length ∧ i = .int .i64 k ∧ Hid (wr.ownsRow w.heap.size 2 1 (.slice (some ⟨w.heap.size, 0, none⟩) ms.length ms.length) ms.length ((ms.take k).flatMap I64.enc ++ Z.drop (k * 1))) ∧ Below w.heap.size w wr) (fun i _ => ms.length - (intOf i).toNat)
  case atStart => exact ⟨0, Nat.zero_le _, rfl, HO, hbw⟩
  case round =>
    obtain ⟨k, hk, rfl, ho, hb⟩ := hrel
    by_cases hlt : k < ms.length
    · obtain ⟨mb, mo, rfl, hc⟩ := (HM.out.kept hb).open hlt
      have hc0 := hc.at0 hlt rfl
      clear hc
      rw [Nat.mul_one] at hc0
      obtain ⟨v0, hv0⟩ := own_has (j := k) ho.out (by omega)
      have f0 := ho.out.frozenAt k
      obtain ⟨ho3, hg3⟩ := own_put (sz := 1) I64.enc_len HZ.out hlt ho.out
      have ho3' : (wr.setCell ⟨w.heap.size, k, none⟩ (.int .i64 ms[k])).ownsRow w.heap.size 2 1 (.slice (some ⟨w.heap.size, 0, none⟩) ms.length ms.length) ms.length ((ms.take (k + 1)).flatMap I64.enc ++ Z.drop ((k + 1) * 1)) := by
        have h := ho3; rw [Nat.mul_one] at h; exact h
      have hg3' : wr.grownBy (wr.setCell ⟨w.heap.size, k, none⟩ (.int .i64 ms[k])) (some w.heap.size) := by
        have h := hg3; rw [Nat.mul_one] at h; exact h
      have HO3 := Lib.hid ho3'
      have HG3 := Lib.hid hg3'
      clear ho3 hg3 ho3' hg3'
      generalize ms[k] = m at *
      go_wp2
      go_roundw
      case rel => exact ⟨k + 1, by omega, by go_num, HO3, below_grown hb hb.size HG3.out (Nat.le_refl _)⟩
      case measure => simp [intOf]; omega
    · have ho2 := ho.out
      rw [row_end ms Z HZ.out hlt] at ho2
      have HO2 := Lib.hid ho2
      clear ho2
      go_wp2
      go_ret
      exact ⟨_, rfl, HO2.out, hb⟩

set_option maxHeartbeats 1000000 in
theorem eqInt64S_any (ms : List Int) (a b : Option Addr) (capa capb : Nat) (w : World) (ha : SliceAt w 1 I64.enc a ms) (hb : SliceAt w 1 I64.enc b ms) (hl : ms.length ≤ 9223372036854775807) :
    Calls Tryz.prog 18 #[.slice a ms.length capa, .slice b ms.length capb] w fun e w' => e = .returned (.bool true) ∧ Below w.heap.size w w' := by
  have HA := Lib.hid ha; clear ha
  have HB := Lib.hid hb; clear hb
  go_enter Tryz.func18, Tryz.ntmps18
  go_wp2
  go_loopw [5] (fun i wr => ∃ k : Nat, k ≤ ms.length ∧ i = .int .i64 k ∧ Below w.heap.size w wr) (fun i _ => ms.length - (intOf i).toNat)
  case atStart => exact ⟨0, Nat.zero_le _, rfl, Below.refl _ _⟩
  case round =>
    obtain ⟨k, hk, rfl, hb⟩ := hrel
    by_cases hlt : k < ms.length
    · obtain ⟨xb, xo, rfl, hc⟩ := (HA.out.kept hb).open hlt
      obtain ⟨yb, yo, rfl, hd⟩ := (HB.out.kept hb).open hlt
      have c0 := hc.at0 hlt (v := .int .i64 ms[k]) rfl
      have d0 := hd.at0 hlt (v := .int .i64 ms[k]) rfl
      clear hc hd
      rw [Nat.mul_one] at c0 d0
      generalize ms[k] = m at *
      go_wp2_with fail
      go_quiet (fail)
      go_wp2
      go_roundw
      case rel => exact ⟨k + 1, by omega, by go_num, by first | exact hb | exact hb.trans (Drew.below ⟨_, rfl⟩ _)⟩
      case measure => simp [intOf]; omega
    · go_wp2
      go_ret
      exact ⟨rfl, hb⟩

/-- elements that bear the marks from c on; n of them -/
def I64.marks (c : Int) (n : Nat) : List Int := (List.range n).map fun (i : Nat) => c + i
theorem I64.marks_len (c : Int) (n : Nat) : (I64.marks c n).length = n := by simp [I64.marks]
theorem I64.marks_get (c : Int) (n : Nat) {k : Nat} (h : k < (I64.marks c n).length) : (I64.marks c n)[k] = c + k := by simp [I64.marks]

set_option maxHeartbeats 2000000 in
theorem markInt64S_any (ms : List Int) (a : Option Addr) (cap : Nat) (base : Nat) (c0 : Int) (w : World) (hm : w.ownsRow base 2 1 (.slice a ms.length cap) ms.length (ms.flatMap I64.enc)) (hl : ms.length ≤ 9223372036854775807) (h0 : 0 ≤ c0) (h1 : c0 + ms.length ≤ 1099511627776) :
    Calls Tryz.prog 21 #[.slice a ms.length cap, .int .i64 c0] w (MarkPost w base 2 1 (.slice a ms.length cap) ms.length ((I64.marks c0 ms.length).flatMap I64.enc) (c0 + ms.length)) := by
  have hml := I64.marks_len c0 ms.length
  have hmf : (ms.flatMap I64.enc).length = (I64.marks c0 ms.length).length * 1 := by rw [hml, flatMap_len I64.enc_len]
  have HML := Lib.hid hml; clear hml
  have HZ := Lib.hid hmf; clear hmf
  by_cases hz : ms.length = 0
  · obtain rfl : ms = [] := List.length_eq_zero_iff.1 hz
    have HM := Lib.hid hm; clear hm HML HZ hz
    go_enter Tryz.func21, Tryz.ntmps21
    go_wp2
    refine wp_loop_rounds 1 ?_
    rw [rounds_succ]
    go_wp2
    go_ret
    refine ⟨by simp, ?_, ⟨rfl, rfl, rfl, Nat.le_refl _, fun _ _ _ => rfl⟩⟩
    simpa [I64.marks] using HM.out
  · obtain ⟨g, rfl⟩ : ∃ g, a = some ⟨g, 0, none⟩ := by
      rcases hm.2 with ⟨_, h⟩ | ⟨g, _, _, h, _⟩
      · exact absurd h hz
      · simp only [Value.slice.injEq] at h
        exact ⟨g, h.1⟩
    have HO : Hid (w.ownsRow base 2 1 (.slice (some ⟨g, 0, none⟩) ms.length cap) ms.length ((I64.marks c0 ms.length).take 0 |>.flatMap I64.enc |> (· ++ (ms.flatMap I64.enc).drop (0 * 1)))) := by simpa [Hid] using hm
    clear hm hz
    go_enter Tryz.func21, Tryz.ntmps21
    go_wp2
    go_loopw [1, 5] (fun s i wr => ∃ (k : Nat) (c : Int), k ≤ ms.length ∧ i = .int .i64 k ∧ s = .int .i64 c ∧ Hid (c = c0 + k) ∧ 0 ≤ c ∧ Hid (wr.ownsRow base 2 1 (.slice (some ⟨g, 0, none⟩) ms.length cap) ms.length (((I64.marks c0 ms.length).take k).flatMap I64.enc ++ (ms.flatMap I64.enc).drop (k * 1))) ∧ Hid (w.grownBy wr (some g))) (fun _ i _ => ms.length - (intOf i).toNat)
    case atStart => exact ⟨0, c0, Nat.zero_le _, rfl, rfl, by simp [Hid], h0, HO, ⟨rfl, rfl, rfl, Nat.le_refl _, fun _ _ _ => rfl⟩⟩
    case round =>
      obtain ⟨k, c, hk, rfl, rfl, HC, hc0, ho, HG⟩ := hrel
      by_cases hlt : k < ms.length
      · have hcb : c + 1 ≤ 1099511627776 := by have := HC.out; omega
        have ho0 := ho.out
        have HG0 := HG
        obtain ⟨v0, hv0⟩ := own_has (j := k) ho0 (by omega)
        have f0 := ho0.frozenAt k
        obtain ⟨hs1, hg1⟩ := own_stores [Value.int .i64 (c)] (k * 1) ho0
        have hget : (I64.marks c0 ms.length)[k]'(by rw [HML.out]; exact hlt) = c := by rw [I64.marks_get, HC.out]
        have hstep := row_step I64.enc_len (I64.marks c0 ms.length) (ms.flatMap I64.enc) HZ.out (k := k) (by rw [HML.out]; exact hlt)
        rw [hget] at hstep
        have HO3 : Hid ((wr.setCell ⟨g, k, none⟩ (.int .i64 (c))).ownsRow base 2 1 (.slice (some ⟨g, 0, none⟩) ms.length cap) ms.length (((I64.marks c0 ms.length).take (k + 1)).flatMap I64.enc ++ (ms.flatMap I64.enc).drop ((k + 1) * 1))) := Lib.hid (by
          have h := own_as hs1 hstep; rw [Nat.mul_one k] at h; exact h)
        have HG3 : Hid (w.grownBy (wr.setCell ⟨g, k, none⟩ (.int .i64 (c))) (some g)) := Lib.hid (by
          have h := grownBy_trans HG0.out hg1; rw [Nat.mul_one k] at h; exact h)
        clear hs1 hg1 hget hstep ho0
        go_wp2
        go_roundw
        case rel => exact ⟨k + 1, c + 1, by omega, by go_num, rfl, by have := HC.out; unfold Hid; omega, by omega, HO3, HG3⟩
        case measure => simp [intOf]; omega
      · have ho2 := ho.out
        rw [row_end _ _ HZ.out (by rw [HML.out]; exact hlt)] at ho2
        have HO2 := Lib.hid ho2
        clear ho2
        go_wp2
        go_ret
        refine ⟨?_, HO2.out, HG.out⟩
        have := HC.out
        have e : k = ms.length := by omega
        rw [e] at this
        rw [← this]
        rfl

set_option maxHeartbeats 2000000 in
theorem heldInt64S_any (len : Nat) (a : Option Addr) (cap : Nat) (c0 : Int) (w : World) (hm : SliceAt w 1 I64.enc a (I64.marks c0 len)) (_hl : len ≤ 9223372036854775807) (h0 : 0 ≤ c0) (h1 : c0 + len ≤ 1099511627776) :
    Calls Tryz.prog 22 #[.slice a len cap, .int .i64 c0] w fun e w' => e = .returned (.int .i64 (c0 + len)) ∧ Below w.heap.size w w' := by
  have HM := Lib.hid hm; clear hm
  have HML := Lib.hid (I64.marks_len c0 len)
  go_enter Tryz.func22, Tryz.ntmps22
  go_wp2
  go_loopw [1, 5] (fun s i wr => ∃ (k : Nat) (c : Int), k ≤ len ∧ i = .int .i64 k ∧ s = .int .i64 c ∧ Hid (c = c0 + k) ∧ 0 ≤ c ∧ Below w.heap.size w wr) (fun _ i _ => len - (intOf i).toNat)
  case atStart => exact ⟨0, c0, Nat.zero_le _, rfl, rfl, by simp [Hid], h0, Below.refl _ _⟩
  case round =>
    obtain ⟨k, c, hk, rfl, rfl, HC, hc0, hb⟩ := hrel
    by_cases hlt : k < len
    · have hcb : c + 1 ≤ 1099511627776 := by have := HC.out; omega
      have hkl : k < (I64.marks c0 len).length := by rw [HML.out]; exact hlt
      obtain ⟨mb, mo, rfl, hcs⟩ := (HM.out.kept hb).open hkl
      have hget : (I64.marks c0 len)[k] = c := by rw [I64.marks_get, HC.out]
      have hc0 := hcs.at0 hkl (v := Value.int .i64 (c)) (by rw [hget]; rfl)
      rw [Nat.mul_one] at hc0
      clear hcs hget hkl
      go_wp2_with fail
      try (go_quiet (fail); go_wp2)
      go_roundw
      case rel => exact ⟨k + 1, c + 1, by omega, by go_num, rfl, by have := HC.out; unfold Hid; omega, by omega, by first | exact hb | exact hb.trans (Drew.below ⟨_, rfl⟩ _)⟩
      case measure => simp [intOf]; omega
    · go_wp2
      go_ret
      refine ⟨?_, hb⟩
      have := HC.out
      have e : k = len := by omega
      rw [e] at this
      rw [← this]
      rfl

end Go.Proofs.YtpkadgibfmjmcaaGreatDoor
