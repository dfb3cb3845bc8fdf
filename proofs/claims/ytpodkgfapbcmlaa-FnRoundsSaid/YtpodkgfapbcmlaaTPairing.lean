/- The Pairing type's own functions in the statements (eq, eqS, markS, heldS): what they compute. No condition but bounds on sizes. -/
import Derived.Test.YtpodkgfapbcmlaaText
namespace Go.Proofs.Ytpodkgfapbcmlaa
open Go.ChangeShapes Go.WideShapes Go.ChangeAt Go.RowKit Go.Sort

structure Pai where
  a : ByteArray
  b : ByteArray
def Pai.enc (m : Pai) : List Value := [.string m.a, .string m.b]
theorem Pai.enc_len (m : Pai) : (Pai.enc m).length = 2 := rfl
/-- What memory bounds: no string is longer than a string can be. -/
def Pai.fit (m : Pai) : Prop := m.a.size ≤ 9223372036854775807 ∧ m.b.size ≤ 9223372036854775807
def Pai.sz (m : Pai) : Nat := m.a.size + m.b.size

set_option maxHeartbeats 1000000 in
theorem eqPairing_any (m : Pai) (w : World) :
    Calls Try.prog 100 #[.agg #[.string m.a, .string m.b], .agg #[.string m.a, .string m.b]] w fun e w' => e = .returned (.bool true) ∧ Below w.heap.size w w' := by
  go_enter Try.func100, Try.ntmps100
  go_wp2
  go_ret
  exact ⟨rfl, by go_grown⟩

theorem infoPairing : (Try.prog.info? 82).map (fun i => (i.zero, i.size, i.bytes)) = some (some (.agg #[.string ⟨#[]⟩, .string ⟨#[]⟩]), 2, 32) := by kernel_rfl

set_option maxHeartbeats 1000000 in
theorem eqPairingS_any (ms : List Pai) (a b : Option Addr) (capa capb : Nat) (w : World) (ha : SliceAt w 2 Pai.enc a ms) (hb : SliceAt w 2 Pai.enc b ms) (hl : ms.length ≤ 9223372036854775807) :
    Calls Try.prog 55 #[.slice a ms.length capa, .slice b ms.length capb] w fun e w' => e = .returned (.bool true) ∧ Below w.heap.size w w' := by
  have HA := Lib.hid ha; clear ha
  have HB := Lib.hid hb; clear hb
  go_enter Try.func55, Try.ntmps55
  go_wp2
  go_loopw [5] (fun i wr => ∃ k : Nat, k ≤ ms.length ∧ i = .int .i64 k ∧ Below w.heap.size w wr) (fun i _ => ms.length - (intOf i).toNat)
  case atStart => exact ⟨0, Nat.zero_le _, rfl, Below.refl _ _⟩
  case round =>
    obtain ⟨k, hk, rfl, hb⟩ := hrel
    by_cases hlt : k < ms.length
    · obtain ⟨xb, xo, rfl, hc⟩ := (HA.out.kept hb).open hlt
      obtain ⟨yb, yo, rfl, hd⟩ := (HB.out.kept hb).open hlt
      have c0 := cell_regrown (hc.at0 hlt (v := .string ms[k].a) rfl)
      have d0 := cell_regrown (hd.at0 hlt (v := .string ms[k].a) rfl)
      have c1 := cell_regrown (hc k hlt 1 (.string ms[k].b) rfl)
      have d1 := cell_regrown (hd k hlt 1 (.string ms[k].b) rfl)
      clear hc hd
      go_wp2
      refine wp_region_quiet_below (by kernel_rfl) (by kernel_rfl) ?_
      repeat (go_big_quiet_step ((go_at_call 100; exact Calls.regrown_of (eqPairing_any ms[k] _))))
      refine wpQuiet_nil ?_
      intro _ hw'
      obtain ⟨⟨dq, oq⟩, hw''⟩ := hw'
      subst hw''
      go_wp2
      go_roundw
      case rel => exact ⟨k + 1, by omega, by go_num, hb.trans ((below_regrown _ _ _).mono hb.size)⟩
      case measure => simp [intOf]; omega
    · go_wp2
      go_ret
      exact ⟨rfl, hb⟩

/-- an element that bears the marks from c on; n of them -/
def Pai.mk1 (c : Int) : Pai := ⟨mtext c.toNat, mtext (c + 1).toNat⟩
def Pai.marks (c : Int) (n : Nat) : List Pai := (List.range n).map fun (i : Nat) => Pai.mk1 (c + 2 * i)
theorem Pai.marks_len (c : Int) (n : Nat) : (Pai.marks c n).length = n := by simp [Pai.marks]
theorem Pai.marks_get (c : Int) (n : Nat) {k : Nat} (h : k < (Pai.marks c n).length) : (Pai.marks c n)[k] = Pai.mk1 (c + 2 * k) := by simp [Pai.marks]

set_option maxHeartbeats 2000000 in
theorem markPairingS_any (ms : List Pai) (a : Option Addr) (cap : Nat) (base : Nat) (c0 : Int) (w : World) (hm : w.ownsRow base 82 2 (.slice a ms.length cap) ms.length (ms.flatMap Pai.enc)) (hl : ms.length ≤ 9223372036854775807) (h0 : 0 ≤ c0) (h1 : c0 + 2 * ms.length ≤ 1099511627776) :
    Calls Try.prog 56 #[.slice a ms.length cap, .int .i64 c0] w (MarkPost w base 82 2 (.slice a ms.length cap) ms.length (((Pai.marks c0 ms.length)).flatMap Pai.enc) (c0 + 2 * ms.length)) := by
  have hml := Pai.marks_len c0 ms.length
  have hmf : (ms.flatMap Pai.enc).length = (Pai.marks c0 ms.length).length * 2 := by rw [hml, flatMap_len Pai.enc_len]
  have HML := Lib.hid hml; clear hml
  have HZ := Lib.hid hmf; clear hmf
  by_cases hz : ms.length = 0
  · obtain rfl : ms = [] := List.length_eq_zero_iff.1 hz
    have HM := Lib.hid hm; clear hm HML HZ hz
    go_enter Try.func56, Try.ntmps56
    go_wp2
    refine wp_loop_rounds 1 ?_
    rw [rounds_succ]
    go_wp2
    go_ret
    refine ⟨by simp, ?_, ⟨rfl, rfl, rfl, Nat.le_refl _, fun _ _ _ => rfl⟩⟩
    simpa [Pai.marks] using HM.out
  · obtain ⟨g, rfl⟩ : ∃ g, a = some ⟨g, 0, none⟩ := by
      rcases hm.2 with ⟨_, h⟩ | ⟨g, _, _, h, _⟩
      · exact absurd h hz
      · simp only [Value.slice.injEq] at h
        exact ⟨g, h.1⟩
    have HO : Hid (w.ownsRow base 82 2 (.slice (some ⟨g, 0, none⟩) ms.length cap) ms.length (((Pai.marks c0 ms.length).take 0).flatMap Pai.enc ++ (ms.flatMap Pai.enc).drop (0 * 2))) := by simpa [Hid] using hm
    clear hm hz
    go_enter Try.func56, Try.ntmps56
    go_wp2
    go_loopw [1, 5] (fun s i wr => ∃ (k : Nat) (c : Int), k ≤ ms.length ∧ i = .int .i64 k ∧ s = .int .i64 c ∧ Hid (c = c0 + 2 * k) ∧ 0 ≤ c ∧ Hid (wr.ownsRow base 82 2 (.slice (some ⟨g, 0, none⟩) ms.length cap) ms.length (((Pai.marks c0 ms.length).take k).flatMap Pai.enc ++ (ms.flatMap Pai.enc).drop (k * 2))) ∧ Hid (w.grownBy wr (some g))) (fun _ i _ => ms.length - (intOf i).toNat)
    case atStart => exact ⟨0, c0, Nat.zero_le _, rfl, rfl, by simp [Hid], h0, HO, ⟨rfl, rfl, rfl, Nat.le_refl _, fun _ _ _ => rfl⟩⟩
    case round =>
      obtain ⟨k, c, hk, rfl, rfl, HC, hc0, ho, HG⟩ := hrel
      by_cases hlt : k < ms.length
      · have hcb : c + 2 ≤ 1099511627776 := by have := HC.out; omega
        go_wp2_with fail
        refine (markText_int _ _ (by omega) (by omega)).mono ?_
        rintro e w2 ⟨rfl, hb2⟩
        have ho0 := own_below (ho.out) hb2
        have HG0 := Lib.hid (grownBy_trans (World.grownBy_refl wr (some g)) (grown_of_below (row := some g) hb2))
        obtain ⟨v0, hv0⟩ := own_has (j := k * 2) ho0 (by omega)
        have f0 := ho0.frozenAt (k * 2)
        have HO0 := Lib.hid ho0
        clear ho0
        go_wp2_with fail
        obtain ⟨hs1, hg1⟩ := own_stores [Value.string (mtext c.toNat)] (k * 2) HO0.out
        have HS1 := Lib.hid hs1
        clear hs1
        refine (markText_int _ _ (by omega) (by omega)).mono ?_
        rintro e w3 ⟨rfl, hb3⟩
        have ho1 := own_below (HS1.out) hb3
        have HG1 := Lib.hid (grownBy_trans (grownBy_trans HG0.out hg1) (grown_of_below (row := some g) hb3))
        obtain ⟨v1, hv1⟩ := own_has (j := k * 2 + 1) ho1 (by omega)
        have f1 := ho1.frozenAt (k * 2 + 1)
        have HO1 := Lib.hid ho1
        clear ho1
        go_wp2
        obtain ⟨hs2, hg2⟩ := own_stores [Value.string (mtext (c + 1).toNat)] (k * 2 + 1) HO1.out
        have hget : (Pai.marks c0 ms.length)[k]'(by rw [HML.out]; exact hlt) = Pai.mk1 c := by rw [Pai.marks_get, HC.out]
        have hstep := row_step Pai.enc_len (Pai.marks c0 ms.length) (ms.flatMap Pai.enc) HZ.out (k := k) (by rw [HML.out]; exact hlt)
        rw [hget] at hstep
        go_roundw
        case rel => exact ⟨k + 1, c + 1 + 1, by omega, by go_num, rfl, by have := HC.out; unfold Hid; omega, by omega, own_as hs2 hstep, grownBy_trans HG.out (grownBy_trans HG1.out hg2)⟩
        case measure => simp [intOf]; omega
      · have ho2 := ho.out
        rw [row_end _ _ HZ.out (by rw [HML.out]; exact hlt)] at ho2
        have HO2 := Lib.hid ho2
        clear ho2
        go_wp2
        go_ret
        refine ⟨?_, HO2.out, HG.out⟩
        have := HC.out
        have e : k = ms.length := by omega
        rw [e] at this
        rw [← this]
        rfl

set_option maxHeartbeats 2000000 in
theorem heldPairingS_any (len : Nat) (a : Option Addr) (cap : Nat) (c0 : Int) (w : World) (hm : SliceAt w 2 Pai.enc a (Pai.marks c0 len)) (_hl : len ≤ 9223372036854775807) (h0 : 0 ≤ c0) (h1 : c0 + 2 * len ≤ 1099511627776) :
    Calls Try.prog 57 #[.slice a len cap, .int .i64 c0] w fun e w' => e = .returned (.int .i64 (c0 + 2 * len)) ∧ Below w.heap.size w w' := by
  have HM := Lib.hid hm; clear hm
  have HML := Lib.hid (Pai.marks_len c0 len)
  go_enter Try.func57, Try.ntmps57
  go_wp2
  go_loopw [1, 5] (fun s i wr => ∃ (k : Nat) (c : Int), k ≤ len ∧ i = .int .i64 k ∧ s = .int .i64 c ∧ Hid (c = c0 + 2 * k) ∧ 0 ≤ c ∧ Below w.heap.size w wr) (fun _ i _ => len - (intOf i).toNat)
  case atStart => exact ⟨0, c0, Nat.zero_le _, rfl, rfl, by simp [Hid], h0, Below.refl _ _⟩
  case round =>
    obtain ⟨k, c, hk, rfl, rfl, HC, hc0, hb⟩ := hrel
    by_cases hlt : k < len
    · have hcb : c + 2 ≤ 1099511627776 := by have := HC.out; omega
      have hkl : k < (Pai.marks c0 len).length := by rw [HML.out]; exact hlt
      obtain ⟨mb, mo, rfl, hcs⟩ := (HM.out.kept hb).open hkl
      have hget : (Pai.marks c0 len)[k] = Pai.mk1 c := by rw [Pai.marks_get, HC.out]
      have hc0 := hcs.at0 hkl (v := Value.string (mtext c.toNat)) (by rw [hget]; rfl)
      have hc1 := hcs k hkl 1 (Value.string (mtext (c + 1).toNat)) (by rw [hget]; rfl)
      clear hcs hget hkl
      go_wp2
      have q0 := cell_regrown hc0
      refine wp_region_quiet_below (by kernel_rfl) (by kernel_rfl) ?_
      repeat (go_big_quiet_step ((go_at_call 72; exact Calls.regrown_of (markText_int _ _ (by omega) (by omega)))))
      refine wpQuiet_nil ?_
      intro w2 hw'
      have hb2 := below_of_ex hw'
      clear hw' q0
      have hc1_0 := cell_kept hc1 hb2
      go_wp2
      have q1 := cell_regrown hc1_0
      refine wp_region_quiet_below (by kernel_rfl) (by kernel_rfl) ?_
      repeat (go_big_quiet_step ((go_at_call 72; exact Calls.regrown_of (markText_int _ _ (by omega) (by omega)))))
      refine wpQuiet_nil ?_
      intro w3 hw'
      have hb3 := below_of_ex hw'
      clear hw' q1
      go_wp2
      go_roundw
      case rel => exact ⟨k + 1, c + 1 + 1, by omega, by go_num, rfl, by have := HC.out; unfold Hid; omega, by omega, ((hb.trans (hb2.mono hb.size)).trans (hb3.mono (hb.trans (hb2.mono hb.size)).size))⟩
      case measure => simp [intOf]; omega
    · go_wp2
      go_ret
      refine ⟨?_, hb⟩
      have := HC.out
      have e : k = len := by omega
      rw [e] at this
      rw [← this]
      rfl

end Go.Proofs.Ytpodkgfapbcmlaa
