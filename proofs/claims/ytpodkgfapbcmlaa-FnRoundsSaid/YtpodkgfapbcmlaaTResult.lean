/- The Result type's own functions in the statements (sz, szS, to, toS, eq, eqS, markS): what they compute. No condition but bounds on sizes. -/
import Derived.Test.YtpodkgfapbcmlaaText
namespace Go.Proofs.Ytpodkgfapbcmlaa
open Go.ChangeShapes Go.WideShapes Go.ChangeAt Go.RowKit Go.Sort

structure Res where
  a : ByteArray
  b : ByteArray
  sa : Int
  sb : Int
def Res.enc (m : Res) : List Value := [.string m.a, .string m.b, .int .i64 m.sa, .int .i64 m.sb]
theorem Res.enc_len (m : Res) : (Res.enc m).length = 4 := rfl
/-- What memory bounds: no string is longer than a string can be. -/
def Res.fit (m : Res) : Prop := m.a.size ≤ 9223372036854775807 ∧ m.b.size ≤ 9223372036854775807
def Res.sz (m : Res) : Nat := m.a.size + m.b.size

set_option maxHeartbeats 1000000 in
theorem szResult_any (m : Res) (left : Int) (w : World) (h0 : 0 ≤ left) (h1 : left ≤ 1048576) (hf : m.fit) :
    Calls Try.prog 17 #[.agg #[.string m.a, .string m.b, .int .i64 m.sa, .int .i64 m.sb], .int .i64 left] w (SzPost w left m.sz) := by
  obtain ⟨hf0, hf1⟩ := hf
  go_enter Try.func17, Try.ntmps17
  go_wp2
  all_goals
    go_ret
    first
      | exact ⟨_, rfl, .inl rfl, by go_grown⟩
      | exact ⟨_, rfl, .inr ⟨by omega, by simp only [Res.sz]; omega⟩, by go_grown⟩

set_option maxHeartbeats 1000000 in
theorem szResultS_any (ms : List Res) (a : Option Addr) (cap : Nat) (left : Int) (w : World) (hm : SliceAt w 4 Res.enc a ms) (hl : ms.length ≤ 9223372036854775807) (hf : ∀ m ∈ ms, m.fit) (h0 : 0 ≤ left) (h1 : left ≤ 1048576) :
    Calls Try.prog 23 #[.slice a ms.length cap, .int .i64 left] w (SzPost w left (ms.length + szAll Res.sz ms)) := by
  have HM := Lib.hid hm; clear hm
  have HF := Lib.hid hf; clear hf
  by_cases hlen : left - ms.length < 0
  · go_enter Try.func23, Try.ntmps23
    go_wp2
    go_ret
    exact ⟨_, rfl, .inl rfl, Below.refl _ _⟩
  · go_enter Try.func23, Try.ntmps23
    go_wp2
    go_loopw [1, 5] (fun l i wr => ∃ (k : Nat) (r : Int), k ≤ ms.length ∧ i = .int .i64 k ∧ l = .int .i64 r ∧ 0 ≤ r ∧ r + ms.length + szAll Res.sz (ms.take k) = left ∧ Below w.heap.size w wr) (fun _ i _ => ms.length - (intOf i).toNat)
    case atStart => exact ⟨0, left - ms.length, Nat.zero_le _, rfl, rfl, by omega, by simp [szAll], Below.refl _ _⟩
    case round =>
      obtain ⟨k, r, hk, rfl, rfl, hr0, hr, hb⟩ := hrel
      have hr1 : r ≤ 1048576 := by omega
      have HR := Lib.hid hr; clear hr
      by_cases hlt : k < ms.length
      · obtain ⟨mb, mo, rfl, hc⟩ := (HM.out.kept hb).open hlt
        have hc0 := hc.at0 hlt rfl
        have hc1 := hc k hlt 1 _ rfl
        have hc2 := hc k hlt 2 _ rfl
        have hc3 := hc k hlt 3 _ rfl
        clear hc
        go_wp2_with fail
        refine (szResult_any ms[k] r _ hr0 hr1 (HF.out _ (List.getElem_mem hlt))).mono ?_
        rintro e w2 ⟨r2, rfl, h2, hb2⟩
        rcases h2 with rfl | ⟨h20, h2⟩
        · go_wp2
          go_ret
          exact ⟨_, rfl, .inl rfl, hb.trans (hb2.mono hb.size)⟩
        · have h3 : ¬ r2 < 0 := by omega
          have H2 := Lib.hid h2; clear h2
          go_wp2
          go_roundw
          case rel => exact ⟨k + 1, r2, by omega, by go_num, rfl, h20, by rw [szAll_take hlt]; have := H2.out; have := HR.out; omega, hb.trans (hb2.mono hb.size)⟩
          case measure => simp [intOf]; omega
      · go_wp2
        go_ret
        refine ⟨_, rfl, .inr ⟨hr0, ?_⟩, hb⟩
        have := HR.out
        rw [List.take_of_length_le (by omega)] at this
        omega

set_option maxHeartbeats 1000000 in
theorem toResult_any (m : Res) (w : World) :
    Calls Try.prog 19 #[.agg #[.string m.a, .string m.b, .int .i64 m.sa, .int .i64 m.sb]] w fun e w' => e = .returned (.agg #[.string m.a, .string m.b, .int .i64 m.sa, .int .i64 m.sb]) ∧ Below w.heap.size w w' := by
  go_enter Try.func19, Try.ntmps19
  go_wp2
  go_returns
  exact ⟨rfl, by go_grown⟩

set_option maxHeartbeats 1000000 in
theorem eqResult_any (m : Res) (w : World) :
    Calls Try.prog 71 #[.agg #[.string m.a, .string m.b, .int .i64 m.sa, .int .i64 m.sb], .agg #[.string m.a, .string m.b, .int .i64 m.sa, .int .i64 m.sb]] w fun e w' => e = .returned (.bool true) ∧ Below w.heap.size w w' := by
  go_enter Try.func71, Try.ntmps71
  go_wp2
  go_ret
  exact ⟨rfl, by go_grown⟩

theorem infoResult : (Try.prog.info? 39).map (fun i => (i.zero, i.size, i.bytes)) = some (some (.agg #[.string ⟨#[]⟩, .string ⟨#[]⟩, .int .i64 0, .int .i64 0]), 4, 48) := by kernel_rfl

set_option maxHeartbeats 1000000 in
theorem toResultS_any (ms : List Res) (a : Option Addr) (cap : Nat) (w : World) (hm : SliceAt w 4 Res.enc a ms) (hl : ms.length ≤ 1048576) :
    Calls Try.prog 25 #[.slice a ms.length cap] w (RowPost w 39 4 Res.enc ms) := by
  have HM := Lib.hid hm; clear hm
  obtain ⟨i0, hi, hz0, hz1, hz2⟩ := info_parts infoResult
  go_enter Try.func25, Try.ntmps25
  go_wp2_with (refine wpList_make_full _ rfl _ _ 47 rfl w.heap.size 39 i0 _ 4 Try.underlying47 hi hz0 hz1 .i64 .i64 _ _ ms.length rfl rfl rfl rfl ?c1 ?c2 (Nat.le_refl _) ?_)
  case c1 => rw [hz2]; omega
  case c2 => unfold maxLen; omega
  intro w1 hown hgr
  obtain ⟨Z, hZ, hown⟩ : ∃ Z : List Value, Z.length = ms.length * 4 ∧ w1.ownsRow w.heap.size 39 4 (.slice (some ⟨w.heap.size, 0, none⟩) ms.length ms.length) ms.length Z := ⟨_, by simp [size_madeCells], hown⟩
  have HZ := Lib.hid hZ; clear hZ
  have hbw : Below w.heap.size w w1 := ⟨hgr.os, hgr.tape, hgr.output, hgr.size, fun k hk => hgr.block k hk (by simp)⟩
  have HO : Hid (w1.ownsRow w.heap.size 39 4 (.slice (some ⟨w.heap.size, 0, none⟩) ms.length ms.length) ms.length ((ms.take 0).flatMap Res.enc ++ Z.drop (0 * 4))) := by simpa [Hid] using hown
  clear hown hgr
  go_wp2
  go_loopw [4] (fun i wr => ∃ k : Nat, k ≤ ms.length ∧ i = .int .i64 k ∧ Hid (wr.ownsRow w.heap.size 39 4 (.slice (some ⟨w.heap.size, 0, none⟩) ms.length ms.length) ms.length ((ms.take k).flatMap Res.enc ++ Z.drop (k * 4))) ∧ Below w.heap.size w wr) (fun i _ => ms.length - (intOf i).toNat)
  case atStart => exact ⟨0, Nat.zero_le _, rfl, HO, hbw⟩
  case round =>
    obtain ⟨k, hk, rfl, ho, hb⟩ := hrel
    by_cases hlt : k < ms.length
    · obtain ⟨mb, mo, rfl, hc⟩ := (HM.out.kept hb).open hlt
      have hc0 := hc.at0 hlt rfl
      have hc1 := hc k hlt 1 _ rfl
      have hc2 := hc k hlt 2 _ rfl
      have hc3 := hc k hlt 3 _ rfl
      clear hc
      go_wp2_with fail
      refine (toResult_any ms[k] _).mono ?_
      rintro e w2 ⟨rfl, hb2⟩
      have ho2 := own_below ho.out hb2
      obtain ⟨v0, hv0⟩ := own_has (j := k * 4) ho2 (by omega)
      have f0 := ho2.frozenAt (k * 4)
      obtain ⟨v1, hv1⟩ := own_has (j := k * 4 + 1) ho2 (by omega)
      have f1 := ho2.frozenAt (k * 4 + 1)
      obtain ⟨v2, hv2⟩ := own_has (j := k * 4 + 2) ho2 (by omega)
      have f2 := ho2.frozenAt (k * 4 + 2)
      obtain ⟨v3, hv3⟩ := own_has (j := k * 4 + 3) ho2 (by omega)
      have f3 := ho2.frozenAt (k * 4 + 3)
      have HO2 := Lib.hid ho2
      clear ho2
      go_wp2
      obtain ⟨ho3, hg3⟩ := own_put Res.enc_len HZ.out hlt HO2.out
      have hb3 : Below w.heap.size w w2 := hb.trans (hb2.mono hb.size)
      go_roundw
      case rel => exact ⟨k + 1, by omega, by go_num, ho3, below_grown hb3 hb3.size hg3 (Nat.le_refl _)⟩
      case measure => simp [intOf]; omega
    · have ho2 := ho.out
      rw [row_end ms Z HZ.out hlt] at ho2
      have HO2 := Lib.hid ho2
      clear ho2
      go_wp2
      go_ret
      exact ⟨_, rfl, HO2.out, hb⟩

set_option maxHeartbeats 1000000 in
theorem eqResultS_any (ms : List Res) (a b : Option Addr) (capa capb : Nat) (w : World) (ha : SliceAt w 4 Res.enc a ms) (hb : SliceAt w 4 Res.enc b ms) (hl : ms.length ≤ 9223372036854775807) :
    Calls Try.prog 27 #[.slice a ms.length capa, .slice b ms.length capb] w fun e w' => e = .returned (.bool true) ∧ Below w.heap.size w w' := by
  have HA := Lib.hid ha; clear ha
  have HB := Lib.hid hb; clear hb
  go_enter Try.func27, Try.ntmps27
  go_wp2
  go_loopw [5] (fun i wr => ∃ k : Nat, k ≤ ms.length ∧ i = .int .i64 k ∧ Below w.heap.size w wr) (fun i _ => ms.length - (intOf i).toNat)
  case atStart => exact ⟨0, Nat.zero_le _, rfl, Below.refl _ _⟩
  case round =>
    obtain ⟨k, hk, rfl, hb⟩ := hrel
    by_cases hlt : k < ms.length
    · obtain ⟨xb, xo, rfl, hc⟩ := (HA.out.kept hb).open hlt
      obtain ⟨yb, yo, rfl, hd⟩ := (HB.out.kept hb).open hlt
      have c0 := cell_regrown (hc.at0 hlt (v := .string ms[k].a) rfl)
      have d0 := cell_regrown (hd.at0 hlt (v := .string ms[k].a) rfl)
      have c1 := cell_regrown (hc k hlt 1 (.string ms[k].b) rfl)
      have d1 := cell_regrown (hd k hlt 1 (.string ms[k].b) rfl)
      have c2 := cell_regrown (hc k hlt 2 (.int .i64 ms[k].sa) rfl)
      have d2 := cell_regrown (hd k hlt 2 (.int .i64 ms[k].sa) rfl)
      have c3 := cell_regrown (hc k hlt 3 (.int .i64 ms[k].sb) rfl)
      have d3 := cell_regrown (hd k hlt 3 (.int .i64 ms[k].sb) rfl)
      clear hc hd
      go_wp2
      refine wp_region_quiet_below (by kernel_rfl) (by kernel_rfl) ?_
      repeat (go_big_quiet_step ((go_at_call 71; exact Calls.regrown_of (eqResult_any ms[k] _))))
      refine wpQuiet_nil ?_
      intro _ hw'
      obtain ⟨⟨dq, oq⟩, hw''⟩ := hw'
      subst hw''
      go_wp2
      go_roundw
      case rel => exact ⟨k + 1, by omega, by go_num, hb.trans ((below_regrown _ _ _).mono hb.size)⟩
      case measure => simp [intOf]; omega
    · go_wp2
      go_ret
      exact ⟨rfl, hb⟩

/-- an element that bears the marks from c on; n of them -/
def Res.mk1 (c : Int) : Res := ⟨mtext c.toNat, mtext (c + 1).toNat, (c + 1 + 1), (c + 1 + 1 + 1)⟩
def Res.marks (c : Int) (n : Nat) : List Res := (List.range n).map fun (i : Nat) => Res.mk1 (c + 4 * i)
theorem Res.marks_len (c : Int) (n : Nat) : (Res.marks c n).length = n := by simp [Res.marks]
theorem Res.marks_get (c : Int) (n : Nat) {k : Nat} (h : k < (Res.marks c n).length) : (Res.marks c n)[k] = Res.mk1 (c + 4 * k) := by simp [Res.marks]

set_option maxHeartbeats 2000000 in
theorem markResultS_any (ms : List Res) (a : Option Addr) (cap : Nat) (base : Nat) (c0 : Int) (w : World) (hm : w.ownsRow base 39 4 (.slice a ms.length cap) ms.length (ms.flatMap Res.enc)) (hl : ms.length ≤ 9223372036854775807) (h0 : 0 ≤ c0) (h1 : c0 + 4 * ms.length ≤ 1099511627776) :
    Calls Try.prog 28 #[.slice a ms.length cap, .int .i64 c0] w (MarkPost w base 39 4 (.slice a ms.length cap) ms.length (((Res.marks c0 ms.length)).flatMap Res.enc) (c0 + 4 * ms.length)) := by
  have hml := Res.marks_len c0 ms.length
  have hmf : (ms.flatMap Res.enc).length = (Res.marks c0 ms.length).length * 4 := by rw [hml, flatMap_len Res.enc_len]
  have HML := Lib.hid hml; clear hml
  have HZ := Lib.hid hmf; clear hmf
  by_cases hz : ms.length = 0
  · obtain rfl : ms = [] := List.length_eq_zero_iff.1 hz
    have HM := Lib.hid hm; clear hm HML HZ hz
    go_enter Try.func28, Try.ntmps28
    go_wp2
    refine wp_loop_rounds 1 ?_
    rw [rounds_succ]
    go_wp2
    go_ret
    refine ⟨by simp, ?_, ⟨rfl, rfl, rfl, Nat.le_refl _, fun _ _ _ => rfl⟩⟩
    simpa [Res.marks] using HM.out
  · obtain ⟨g, rfl⟩ : ∃ g, a = some ⟨g, 0, none⟩ := by
      rcases hm.2 with ⟨_, h⟩ | ⟨g, _, _, h, _⟩
      · exact absurd h hz
      · simp only [Value.slice.injEq] at h
        exact ⟨g, h.1⟩
    have HO : Hid (w.ownsRow base 39 4 (.slice (some ⟨g, 0, none⟩) ms.length cap) ms.length (((Res.marks c0 ms.length).take 0).flatMap Res.enc ++ (ms.flatMap Res.enc).drop (0 * 4))) := by simpa [Hid] using hm
    clear hm hz
    go_enter Try.func28, Try.ntmps28
    go_wp2
    go_loopw [1, 5] (fun s i wr => ∃ (k : Nat) (c : Int), k ≤ ms.length ∧ i = .int .i64 k ∧ s = .int .i64 c ∧ Hid (c = c0 + 4 * k) ∧ 0 ≤ c ∧ Hid (wr.ownsRow base 39 4 (.slice (some ⟨g, 0, none⟩) ms.length cap) ms.length (((Res.marks c0 ms.length).take k).flatMap Res.enc ++ (ms.flatMap Res.enc).drop (k * 4))) ∧ Hid (w.grownBy wr (some g))) (fun _ i _ => ms.length - (intOf i).toNat)
    case atStart => exact ⟨0, c0, Nat.zero_le _, rfl, rfl, by simp [Hid], h0, HO, ⟨rfl, rfl, rfl, Nat.le_refl _, fun _ _ _ => rfl⟩⟩
    case round =>
      obtain ⟨k, c, hk, rfl, rfl, HC, hc0, ho, HG⟩ := hrel
      by_cases hlt : k < ms.length
      · have hcb : c + 4 ≤ 1099511627776 := by have := HC.out; omega
        go_wp2_with fail
        refine (markText_int _ _ (by omega) (by omega)).mono ?_
        rintro e w2 ⟨rfl, hb2⟩
        have ho0 := own_below (ho.out) hb2
        have HG0 := Lib.hid (grownBy_trans (World.grownBy_refl wr (some g)) (grown_of_below (row := some g) hb2))
        obtain ⟨v0, hv0⟩ := own_has (j := k * 4) ho0 (by omega)
        have f0 := ho0.frozenAt (k * 4)
        have HO0 := Lib.hid ho0
        clear ho0
        go_wp2_with fail
        obtain ⟨hs1, hg1⟩ := own_stores [Value.string (mtext c.toNat)] (k * 4) HO0.out
        have HS1 := Lib.hid hs1
        clear hs1
        refine (markText_int _ _ (by omega) (by omega)).mono ?_
        rintro e w3 ⟨rfl, hb3⟩
        have ho1 := own_below (HS1.out) hb3
        have HG1 := Lib.hid (grownBy_trans (grownBy_trans HG0.out hg1) (grown_of_below (row := some g) hb3))
        obtain ⟨v1, hv1⟩ := own_has (j := k * 4 + 1) ho1 (by omega)
        have f1 := ho1.frozenAt (k * 4 + 1)
        obtain ⟨v2, hv2⟩ := own_has (j := k * 4 + 2) ho1 (by omega)
        have f2 := ho1.frozenAt (k * 4 + 2)
        obtain ⟨v3, hv3⟩ := own_has (j := k * 4 + 3) ho1 (by omega)
        have f3 := ho1.frozenAt (k * 4 + 3)
        have HO1 := Lib.hid ho1
        clear ho1
        go_wp2
        obtain ⟨hs2, hg2⟩ := own_stores [Value.string (mtext (c + 1).toNat), Value.int .i64 (c + 1 + 1), Value.int .i64 (c + 1 + 1 + 1)] (k * 4 + 1) HO1.out
        have hget : (Res.marks c0 ms.length)[k]'(by rw [HML.out]; exact hlt) = Res.mk1 c := by rw [Res.marks_get, HC.out]
        have hstep := row_step Res.enc_len (Res.marks c0 ms.length) (ms.flatMap Res.enc) HZ.out (k := k) (by rw [HML.out]; exact hlt)
        rw [hget] at hstep
        go_roundw
        case rel => exact ⟨k + 1, c + 1 + 1 + 1 + 1, by omega, by go_num, rfl, by have := HC.out; unfold Hid; omega, by omega, own_as hs2 hstep, grownBy_trans HG.out (grownBy_trans HG1.out hg2)⟩
        case measure => simp [intOf]; omega
      · have ho2 := ho.out
        rw [row_end _ _ HZ.out (by rw [HML.out]; exact hlt)] at ho2
        have HO2 := Lib.hid ho2
        clear ho2
        go_wp2
        go_ret
        refine ⟨?_, HO2.out, HG.out⟩
        have := HC.out
        have e : k = ms.length := by omega
        rw [e] at this
        rw [← this]
        rfl

end Go.Proofs.Ytpodkgfapbcmlaa
