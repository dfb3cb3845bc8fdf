/- The Standing type's own functions in the statements (eq, eqS, markS, heldS): what they compute. No condition but bounds on sizes. -/
import Derived.Test.YtpodkgfapbcmlaaText
namespace Go.Proofs.Ytpodkgfapbcmlaa
open Go.ChangeShapes Go.WideShapes Go.ChangeAt Go.RowKit Go.Sort

structure Std where
  name : ByteArray
  points : Int
  spread : Int
  games : Int
def Std.enc (m : Std) : List Value := [.string m.name, .int .i64 m.points, .int .i64 m.spread, .int .i64 m.games]
theorem Std.enc_len (m : Std) : (Std.enc m).length = 4 := rfl
/-- What memory bounds: no string is longer than a string can be. -/
def Std.fit (m : Std) : Prop := m.name.size ≤ 9223372036854775807
def Std.sz (m : Std) : Nat := m.name.size

set_option maxHeartbeats 1000000 in
theorem eqStanding_any (m : Std) (w : World) :
    Calls Try.prog 91 #[.agg #[.string m.name, .int .i64 m.points, .int .i64 m.spread, .int .i64 m.games], .agg #[.string m.name, .int .i64 m.points, .int .i64 m.spread, .int .i64 m.games]] w fun e w' => e = .returned (.bool true) ∧ Below w.heap.size w w' := by
  go_enter Try.func91, Try.ntmps91
  go_wp2
  go_ret
  exact ⟨rfl, by go_grown⟩

theorem infoStanding : (Try.prog.info? 74).map (fun i => (i.zero, i.size, i.bytes)) = some (some (.agg #[.string ⟨#[]⟩, .int .i64 0, .int .i64 0, .int .i64 0]), 4, 40) := by kernel_rfl

set_option maxHeartbeats 1000000 in
theorem eqStandingS_any (ms : List Std) (a b : Option Addr) (capa capb : Nat) (w : World) (ha : SliceAt w 4 Std.enc a ms) (hb : SliceAt w 4 Std.enc b ms) (hl : ms.length ≤ 9223372036854775807) :
    Calls Try.prog 45 #[.slice a ms.length capa, .slice b ms.length capb] w fun e w' => e = .returned (.bool true) ∧ Below w.heap.size w w' := by
  have HA := Lib.hid ha; clear ha
  have HB := Lib.hid hb; clear hb
  go_enter Try.func45, Try.ntmps45
  go_wp2
  go_loopw [5] (fun i wr => ∃ k : Nat, k ≤ ms.length ∧ i = .int .i64 k ∧ Below w.heap.size w wr) (fun i _ => ms.length - (intOf i).toNat)
  case atStart => exact ⟨0, Nat.zero_le _, rfl, Below.refl _ _⟩
  case round =>
    obtain ⟨k, hk, rfl, hb⟩ := hrel
    by_cases hlt : k < ms.length
    · obtain ⟨xb, xo, rfl, hc⟩ := (HA.out.kept hb).open hlt
      obtain ⟨yb, yo, rfl, hd⟩ := (HB.out.kept hb).open hlt
      have c0 := cell_regrown (hc.at0 hlt (v := .string ms[k].name) rfl)
      have d0 := cell_regrown (hd.at0 hlt (v := .string ms[k].name) rfl)
      have c1 := cell_regrown (hc k hlt 1 (.int .i64 ms[k].points) rfl)
      have d1 := cell_regrown (hd k hlt 1 (.int .i64 ms[k].points) rfl)
      have c2 := cell_regrown (hc k hlt 2 (.int .i64 ms[k].spread) rfl)
      have d2 := cell_regrown (hd k hlt 2 (.int .i64 ms[k].spread) rfl)
      have c3 := cell_regrown (hc k hlt 3 (.int .i64 ms[k].games) rfl)
      have d3 := cell_regrown (hd k hlt 3 (.int .i64 ms[k].games) rfl)
      clear hc hd
      go_wp2
      refine wp_region_quiet_below (by kernel_rfl) (by kernel_rfl) ?_
      repeat (go_big_quiet_step ((go_at_call 91; exact Calls.regrown_of (eqStanding_any ms[k] _))))
      refine wpQuiet_nil ?_
      intro _ hw'
      obtain ⟨⟨dq, oq⟩, hw''⟩ := hw'
      subst hw''
      go_wp2
      go_roundw
      case rel => exact ⟨k + 1, by omega, by go_num, hb.trans ((below_regrown _ _ _).mono hb.size)⟩
      case measure => simp [intOf]; omega
    · go_wp2
      go_ret
      exact ⟨rfl, hb⟩

/-- an element that bears the marks from c on; n of them -/
def Std.mk1 (c : Int) : Std := ⟨mtext c.toNat, (c + 1), (c + 1 + 1), (c + 1 + 1 + 1)⟩
def Std.marks (c : Int) (n : Nat) : List Std := (List.range n).map fun (i : Nat) => Std.mk1 (c + 4 * i)
theorem Std.marks_len (c : Int) (n : Nat) : (Std.marks c n).length = n := by simp [Std.marks]
theorem Std.marks_get (c : Int) (n : Nat) {k : Nat} (h : k < (Std.marks c n).length) : (Std.marks c n)[k] = Std.mk1 (c + 4 * k) := by simp [Std.marks]

set_option maxHeartbeats 2000000 in
theorem markStandingS_any (ms : List Std) (a : Option Addr) (cap : Nat) (base : Nat) (c0 : Int) (w : World) (hm : w.ownsRow base 74 4 (.slice a ms.length cap) ms.length (ms.flatMap Std.enc)) (hl : ms.length ≤ 9223372036854775807) (h0 : 0 ≤ c0) (h1 : c0 + 4 * ms.length ≤ 1099511627776) :
    Calls Try.prog 46 #[.slice a ms.length cap, .int .i64 c0] w (MarkPost w base 74 4 (.slice a ms.length cap) ms.length (((Std.marks c0 ms.length)).flatMap Std.enc) (c0 + 4 * ms.length)) := by
  have hml := Std.marks_len c0 ms.length
  have hmf : (ms.flatMap Std.enc).length = (Std.marks c0 ms.length).length * 4 := by rw [hml, flatMap_len Std.enc_len]
  have HML := Lib.hid hml; clear hml
  have HZ := Lib.hid hmf; clear hmf
  by_cases hz : ms.length = 0
  · obtain rfl : ms = [] := List.length_eq_zero_iff.1 hz
    have HM := Lib.hid hm; clear hm HML HZ hz
    go_enter Try.func46, Try.ntmps46
    go_wp2
    refine wp_loop_rounds 1 ?_
    rw [rounds_succ]
    go_wp2
    go_ret
    refine ⟨by simp, ?_, ⟨rfl, rfl, rfl, Nat.le_refl _, fun _ _ _ => rfl⟩⟩
    simpa [Std.marks] using HM.out
  · obtain ⟨g, rfl⟩ : ∃ g, a = some ⟨g, 0, none⟩ := by
      rcases hm.2 with ⟨_, h⟩ | ⟨g, _, _, h, _⟩
      · exact absurd h hz
      · simp only [Value.slice.injEq] at h
        exact ⟨g, h.1⟩
    have HO : Hid (w.ownsRow base 74 4 (.slice (some ⟨g, 0, none⟩) ms.length cap) ms.length (((Std.marks c0 ms.length).take 0).flatMap Std.enc ++ (ms.flatMap Std.enc).drop (0 * 4))) := by simpa [Hid] using hm
    clear hm hz
    go_enter Try.func46, Try.ntmps46
    go_wp2
    go_loopw [1, 5] (fun s i wr => ∃ (k : Nat) (c : Int), k ≤ ms.length ∧ i = .int .i64 k ∧ s = .int .i64 c ∧ Hid (c = c0 + 4 * k) ∧ 0 ≤ c ∧ Hid (wr.ownsRow base 74 4 (.slice (some ⟨g, 0, none⟩) ms.length cap) ms.length (((Std.marks c0 ms.length).take k).flatMap Std.enc ++ (ms.flatMap Std.enc).drop (k * 4))) ∧ Hid (w.grownBy wr (some g))) (fun _ i _ => ms.length - (intOf i).toNat)
    case atStart => exact ⟨0, c0, Nat.zero_le _, rfl, rfl, by simp [Hid], h0, HO, ⟨rfl, rfl, rfl, Nat.le_refl _, fun _ _ _ => rfl⟩⟩
    case round =>
      obtain ⟨k, c, hk, rfl, rfl, HC, hc0, ho, HG⟩ := hrel
      by_cases hlt : k < ms.length
      · have hcb : c + 4 ≤ 1099511627776 := by have := HC.out; omega
        go_wp2_with fail
        refine (markText_int _ _ (by omega) (by omega)).mono ?_
        rintro e w2 ⟨rfl, hb2⟩
        have ho0 := own_below (ho.out) hb2
        have HG0 := Lib.hid (grownBy_trans (World.grownBy_refl wr (some g)) (grown_of_below (row := some g) hb2))
        obtain ⟨v0, hv0⟩ := own_has (j := k * 4) ho0 (by omega)
        have f0 := ho0.frozenAt (k * 4)
        obtain ⟨v1, hv1⟩ := own_has (j := k * 4 + 1) ho0 (by omega)
        have f1 := ho0.frozenAt (k * 4 + 1)
        obtain ⟨v2, hv2⟩ := own_has (j := k * 4 + 2) ho0 (by omega)
        have f2 := ho0.frozenAt (k * 4 + 2)
        obtain ⟨v3, hv3⟩ := own_has (j := k * 4 + 3) ho0 (by omega)
        have f3 := ho0.frozenAt (k * 4 + 3)
        have HO0 := Lib.hid ho0
        clear ho0
        go_wp2
        obtain ⟨hs1, hg1⟩ := own_stores [Value.string (mtext c.toNat), Value.int .i64 (c + 1), Value.int .i64 (c + 1 + 1), Value.int .i64 (c + 1 + 1 + 1)] (k * 4) HO0.out
        have hget : (Std.marks c0 ms.length)[k]'(by rw [HML.out]; exact hlt) = Std.mk1 c := by rw [Std.marks_get, HC.out]
        have hstep := row_step Std.enc_len (Std.marks c0 ms.length) (ms.flatMap Std.enc) HZ.out (k := k) (by rw [HML.out]; exact hlt)
        rw [hget] at hstep
        go_roundw
        case rel => exact ⟨k + 1, c + 1 + 1 + 1 + 1, by omega, by go_num, rfl, by have := HC.out; unfold Hid; omega, by omega, own_as hs1 hstep, grownBy_trans HG.out (grownBy_trans HG0.out hg1)⟩
        case measure => simp [intOf]; omega
      · have ho2 := ho.out
        rw [row_end _ _ HZ.out (by rw [HML.out]; exact hlt)] at ho2
        have HO2 := Lib.hid ho2
        clear ho2
        go_wp2
        go_ret
        refine ⟨?_, HO2.out, HG.out⟩
        have := HC.out
        have e : k = ms.length := by omega
        rw [e] at this
        rw [← this]
        rfl

set_option maxHeartbeats 2000000 in
theorem heldStandingS_any (len : Nat) (a : Option Addr) (cap : Nat) (c0 : Int) (w : World) (hm : SliceAt w 4 Std.enc a (Std.marks c0 len)) (_hl : len ≤ 9223372036854775807) (h0 : 0 ≤ c0) (h1 : c0 + 4 * len ≤ 1099511627776) :
    Calls Try.prog 47 #[.slice a len cap, .int .i64 c0] w fun e w' => e = .returned (.int .i64 (c0 + 4 * len)) ∧ Below w.heap.size w w' := by
  have HM := Lib.hid hm; clear hm
  have HML := Lib.hid (Std.marks_len c0 len)
  go_enter Try.func47, Try.ntmps47
  go_wp2
  go_loopw [1, 5] (fun s i wr => ∃ (k : Nat) (c : Int), k ≤ len ∧ i = .int .i64 k ∧ s = .int .i64 c ∧ Hid (c = c0 + 4 * k) ∧ 0 ≤ c ∧ Below w.heap.size w wr) (fun _ i _ => len - (intOf i).toNat)
  case atStart => exact ⟨0, c0, Nat.zero_le _, rfl, rfl, by simp [Hid], h0, Below.refl _ _⟩
  case round =>
    obtain ⟨k, c, hk, rfl, rfl, HC, hc0, hb⟩ := hrel
    by_cases hlt : k < len
    · have hcb : c + 4 ≤ 1099511627776 := by have := HC.out; omega
      have hkl : k < (Std.marks c0 len).length := by rw [HML.out]; exact hlt
      obtain ⟨mb, mo, rfl, hcs⟩ := (HM.out.kept hb).open hkl
      have hget : (Std.marks c0 len)[k] = Std.mk1 c := by rw [Std.marks_get, HC.out]
      have hc0 := hcs.at0 hkl (v := Value.string (mtext c.toNat)) (by rw [hget]; rfl)
      have hc1 := hcs k hkl 1 (Value.int .i64 (c + 1)) (by rw [hget]; rfl)
      have hc2 := hcs k hkl 2 (Value.int .i64 (c + 1 + 1)) (by rw [hget]; rfl)
      have hc3 := hcs k hkl 3 (Value.int .i64 (c + 1 + 1 + 1)) (by rw [hget]; rfl)
      clear hcs hget hkl
      go_wp2
      have q0 := cell_regrown hc0
      refine wp_region_quiet_below (by kernel_rfl) (by kernel_rfl) ?_
      repeat (go_big_quiet_step ((go_at_call 72; exact Calls.regrown_of (markText_int _ _ (by omega) (by omega)))))
      refine wpQuiet_nil ?_
      intro w2 hw'
      have hb2 := below_of_ex hw'
      clear hw' q0
      have hc1_0 := cell_kept hc1 hb2
      have hc2_0 := cell_kept hc2 hb2
      have hc3_0 := cell_kept hc3 hb2
      go_wp2
      go_roundw
      case rel => exact ⟨k + 1, c + 1 + 1 + 1 + 1, by omega, by go_num, rfl, by have := HC.out; unfold Hid; omega, by omega, (hb.trans (hb2.mono hb.size))⟩
      case measure => simp [intOf]; omega
    · go_wp2
      go_ret
      refine ⟨?_, hb⟩
      have := HC.out
      have e : k = len := by omega
      rw [e] at this
      rw [← this]
      rfl

end Go.Proofs.Ytpodkgfapbcmlaa
