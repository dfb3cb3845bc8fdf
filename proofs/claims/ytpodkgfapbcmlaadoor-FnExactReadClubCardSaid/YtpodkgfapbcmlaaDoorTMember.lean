/- The Member type's own functions in the statements (sz, szS, to, toS, eq, eqS, markS, heldS): what they compute. No condition but bounds on sizes. -/
import Derived.Test.YtpodkgfapbcmlaaDoorText
namespace Go.Proofs.YtpodkgfapbcmlaaDoor
open Go.ChangeShapes Go.WideShapes Go.ChangeAt Go.RowKit Go.Sort

structure Mem where
  name : ByteArray
  rating : Int
def Mem.enc (m : Mem) : List Value := [.string m.name, .int .i64 m.rating]
theorem Mem.enc_len (m : Mem) : (Mem.enc m).length = 2 := rfl
/-- What memory bounds: no string is longer than a string can be. -/
def Mem.fit (m : Mem) : Prop := m.name.size ≤ 9223372036854775807
def Mem.sz (m : Mem) : Nat := m.name.size

set_option maxHeartbeats 1000000 in
theorem szMember_any (m : Mem) (left : Int) (w : World) (h0 : 0 ≤ left) (h1 : left ≤ 1048576) (hf : m.fit) :
    Calls Tryd.prog 51 #[.agg #[.string m.name, .int .i64 m.rating], .int .i64 left] w (SzPost w left m.sz) := by
  have hf0 : m.name.size ≤ 9223372036854775807 := hf
  go_enter Tryd.func51, Tryd.ntmps51
  go_wp2
  all_goals
    go_ret
    first
      | exact ⟨_, rfl, .inl rfl, by go_grown⟩
      | exact ⟨_, rfl, .inr ⟨by omega, by simp only [Mem.sz]; omega⟩, by go_grown⟩

set_option maxHeartbeats 1000000 in
theorem szMemberS_any (ms : List Mem) (a : Option Addr) (cap : Nat) (left : Int) (w : World) (hm : SliceAt w 2 Mem.enc a ms) (hl : ms.length ≤ 9223372036854775807) (hf : ∀ m ∈ ms, m.fit) (h0 : 0 ≤ left) (h1 : left ≤ 1048576) :
    Calls Tryd.prog 28 #[.slice a ms.length cap, .int .i64 left] w (SzPost w left (ms.length + szAll Mem.sz ms)) := by
  have HM := Lib.hid hm; clear hm
  have HF := Lib.hid hf; clear hf
  by_cases hlen : left - ms.length < 0
  · go_enter Tryd.func28, Tryd.ntmps28
    go_wp2
    go_ret
    exact ⟨_, rfl, .inl rfl, Below.refl _ _⟩
  · go_enter Tryd.func28, Tryd.ntmps28
    go_wp2
    go_loopw [1, 5] (fun l i wr => ∃ (k : Nat) (r : Int), k ≤ ms.length ∧ i = .int .i64 k ∧ l = .int .i64 r ∧ 0 ≤ r ∧ r + ms.length + szAll Mem.sz (ms.take k) = left ∧ Below w.heap.size w wr) (fun _ i _ => ms.length - (intOf i).toNat)
    case atStart => exact ⟨0, left - ms.length, Nat.zero_le _, rfl, rfl, by omega, by simp [szAll], Below.refl _ _⟩
    case round =>
      obtain ⟨k, r, hk, rfl, rfl, hr0, hr, hb⟩ := hrel
      have hr1 : r ≤ 1048576 := by omega
      have HR := Lib.hid hr; clear hr
      by_cases hlt : k < ms.length
      · obtain ⟨mb, mo, rfl, hc⟩ := (HM.out.kept hb).open hlt
        have hc0 := hc.at0 hlt rfl
        have hc1 := hc k hlt 1 _ rfl
        clear hc
        go_wp2_with fail
        refine (szMember_any ms[k] r _ hr0 hr1 (HF.out _ (List.getElem_mem hlt))).mono ?_
        rintro e w2 ⟨r2, rfl, h2, hb2⟩
        rcases h2 with rfl | ⟨h20, h2⟩
        · go_wp2
          go_ret
          exact ⟨_, rfl, .inl rfl, hb.trans (hb2.mono hb.size)⟩
        · have h3 : ¬ r2 < 0 := by omega
          have H2 := Lib.hid h2; clear h2
          go_wp2
          go_roundw
          case rel => exact ⟨k + 1, r2, by omega, by go_num, rfl, h20, by rw [szAll_take hlt]; have := H2.out; have := HR.out; omega, hb.trans (hb2.mono hb.size)⟩
          case measure => simp [intOf]; omega
      · go_wp2
        go_ret
        refine ⟨_, rfl, .inr ⟨hr0, ?_⟩, hb⟩
        have := HR.out
        rw [List.take_of_length_le (by omega)] at this
        omega

set_option maxHeartbeats 1000000 in
theorem toMember_any (m : Mem) (w : World) :
    Calls Tryd.prog 53 #[.agg #[.string m.name, .int .i64 m.rating]] w fun e w' => e = .returned (.agg #[.string m.name, .int .i64 m.rating]) ∧ Below w.heap.size w w' := by
  go_enter Tryd.func53, Tryd.ntmps53
  go_wp2
  go_returns
  exact ⟨rfl, by go_grown⟩

set_option maxHeartbeats 1000000 in
theorem eqMember_any (m : Mem) (w : World) :
    Calls Tryd.prog 56 #[.agg #[.string m.name, .int .i64 m.rating], .agg #[.string m.name, .int .i64 m.rating]] w fun e w' => e = .returned (.bool true) ∧ Below w.heap.size w w' := by
  go_enter Tryd.func56, Tryd.ntmps56
  go_wp2
  go_ret
  exact ⟨rfl, by go_grown⟩

theorem infoMember : (Tryd.prog.info? 64).map (fun i => (i.zero, i.size, i.bytes)) = some (some (.agg #[.string ⟨#[]⟩, .int .i64 0]), 2, 24) := by kernel_rfl

set_option maxHeartbeats 1000000 in
theorem toMemberS_any (ms : List Mem) (a : Option Addr) (cap : Nat) (w : World) (hm : SliceAt w 2 Mem.enc a ms) (hl : ms.length ≤ 1048576) :
    Calls Tryd.prog 31 #[.slice a ms.length cap] w (RowPost w 64 2 Mem.enc ms) := by
  have HM := Lib.hid hm; clear hm
  obtain ⟨i0, hi, hz0, hz1, hz2⟩ := info_parts infoMember
  go_enter Tryd.func31, Tryd.ntmps31
  go_wp2_with (refine wpList_make_full _ rfl _ _ 34 rfl w.heap.size 64 i0 _ 2 Tryd.underlying34 hi hz0 hz1 .i64 .i64 _ _ ms.length rfl rfl rfl rfl ?c1 ?c2 (Nat.le_refl _) ?_)
  case c1 => rw [hz2]; omega
  case c2 => unfold maxLen; omega
  intro w1 hown hgr
  obtain ⟨Z, hZ, hown⟩ : ∃ Z : List Value, Z.length = ms.length * 2 ∧ w1.ownsRow w.heap.size 64 2 (.slice (some ⟨w.heap.size, 0, none⟩) ms.length ms.length) ms.length Z := ⟨_, by simp [size_madeCells], hown⟩
  have HZ := Lib.hid hZ; clear hZ
  have hbw : Below w.heap.size w w1 := ⟨hgr.os, hgr.tape, hgr.output, hgr.size, fun k hk => hgr.block k hk (by simp)⟩
  have HO : Hid (w1.ownsRow w.heap.size 64 2 (.slice (some ⟨w.heap.size, 0, none⟩) ms.length ms.length) ms.length ((ms.take 0).flatMap Mem.enc ++ Z.drop (0 * 2))) := by simpa [Hid] using hown
  clear hown hgr
  go_wp2
  go_loopw [4] (fun i wr => ∃ k : Nat, k ≤ ms.length ∧ i = .int .i64 k ∧ Hid (wr.ownsRow w.heap.size 64 2 (.slice (some ⟨w.heap.size, 0, none⟩) ms.length ms.length) ms.length ((ms.take k).flatMap Mem.enc ++ Z.drop (k * 2))) ∧ Below w.heap.size w wr) (fun i _ => ms.length - (intOf i).toNat)
  case atStart => exact ⟨0, Nat.zero_le _, rfl, HO, hbw⟩
  case round =>
    obtain ⟨k, hk, rfl, ho, hb⟩ := hrel
    by_cases hlt : k < ms.length
    · obtain ⟨mb, mo, rfl, hc⟩ := (HM.out.kept hb).open hlt
      have hc0 := hc.at0 hlt rfl
      have hc1 := hc k hlt 1 _ rfl
      clear hc
      go_wp2_with fail
      refine (toMember_any ms[k] _).mono ?_
      rintro e w2 ⟨rfl, hb2⟩
      have ho2 := own_below ho.out hb2
      obtain ⟨v0, hv0⟩ := own_has (j := k * 2) ho2 (by omega)
      have f0 := ho2.frozenAt (k * 2)
      obtain ⟨v1, hv1⟩ := own_has (j := k * 2 + 1) ho2 (by omega)
      have f1 := ho2.frozenAt (k * 2 + 1)
      have HO2 := Lib.hid ho2
      clear ho2
      go_wp2
      obtain ⟨ho3, hg3⟩ := own_put Mem.enc_len HZ.out hlt HO2.out
      have hb3 : Below w.heap.size w w2 := hb.trans (hb2.mono hb.size)
      go_roundw
      case rel => exact ⟨k + 1, by omega, by go_num, ho3, below_grown hb3 hb3.size hg3 (Nat.le_refl _)⟩
      case measure => simp [intOf]; omega
    · have ho2 := ho.out
      rw [row_end ms Z HZ.out hlt] at ho2
      have HO2 := Lib.hid ho2
      clear ho2
      go_wp2
      go_ret
      exact ⟨_, rfl, HO2.out, hb⟩

set_option maxHeartbeats 1000000 in
theorem eqMemberS_any (ms : List Mem) (a b : Option Addr) (capa capb : Nat) (w : World) (ha : SliceAt w 2 Mem.enc a ms) (hb : SliceAt w 2 Mem.enc b ms) (hl : ms.length ≤ 9223372036854775807) :
    Calls Tryd.prog 35 #[.slice a ms.length capa, .slice b ms.length capb] w fun e w' => e = .returned (.bool true) ∧ Below w.heap.size w w' := by
  have HA := Lib.hid ha; clear ha
  have HB := Lib.hid hb; clear hb
  go_enter Tryd.func35, Tryd.ntmps35
  go_wp2
  go_loopw [5] (fun i wr => ∃ k : Nat, k ≤ ms.length ∧ i = .int .i64 k ∧ Below w.heap.size w wr) (fun i _ => ms.length - (intOf i).toNat)
  case atStart => exact ⟨0, Nat.zero_le _, rfl, Below.refl _ _⟩
  case round =>
    obtain ⟨k, hk, rfl, hb⟩ := hrel
    by_cases hlt : k < ms.length
    · obtain ⟨xb, xo, rfl, hc⟩ := (HA.out.kept hb).open hlt
      obtain ⟨yb, yo, rfl, hd⟩ := (HB.out.kept hb).open hlt
      have c0 := cell_regrown (hc.at0 hlt (v := .string ms[k].name) rfl)
      have d0 := cell_regrown (hd.at0 hlt (v := .string ms[k].name) rfl)
      have c1 := cell_regrown (hc k hlt 1 (.int .i64 ms[k].rating) rfl)
      have d1 := cell_regrown (hd k hlt 1 (.int .i64 ms[k].rating) rfl)
      clear hc hd
      go_wp2
      refine wp_region_quiet_below (by kernel_rfl) (by kernel_rfl) ?_
      repeat (go_big_quiet_step ((go_at_call 56; exact Calls.regrown_of (eqMember_any ms[k] _))))
      refine wpQuiet_nil ?_
      intro _ hw'
      obtain ⟨⟨dq, oq⟩, hw''⟩ := hw'
      subst hw''
      go_wp2
      go_roundw
      case rel => exact ⟨k + 1, by omega, by go_num, hb.trans ((below_regrown _ _ _).mono hb.size)⟩
      case measure => simp [intOf]; omega
    · go_wp2
      go_ret
      exact ⟨rfl, hb⟩

/-- an element that bears the marks from c on; n of them -/
def Mem.mk1 (c : Int) : Mem := ⟨mtext c.toNat, (c + 1)⟩
def Mem.marks (c : Int) (n : Nat) : List Mem := (List.range n).map fun (i : Nat) => Mem.mk1 (c + 2 * i)
theorem Mem.marks_len (c : Int) (n : Nat) : (Mem.marks c n).length = n := by simp [Mem.marks]
theorem Mem.marks_get (c : Int) (n : Nat) {k : Nat} (h : k < (Mem.marks c n).length) : (Mem.marks c n)[k] = Mem.mk1 (c + 2 * k) := by simp [Mem.marks]

set_option maxHeartbeats 2000000 in
theorem markMemberS_any (ms : List Mem) (a : Option Addr) (cap : Nat) (base : Nat) (c0 : Int) (w : World) (hm : w.ownsRow base 64 2 (.slice a ms.length cap) ms.length (ms.flatMap Mem.enc)) (hl : ms.length ≤ 9223372036854775807) (h0 : 0 ≤ c0) (h1 : c0 + 2 * ms.length ≤ 1099511627776) :
    Calls Tryd.prog 42 #[.slice a ms.length cap, .int .i64 c0] w (MarkPost w base 64 2 (.slice a ms.length cap) ms.length (((Mem.marks c0 ms.length)).flatMap Mem.enc) (c0 + 2 * ms.length)) := by
  have hml := Mem.marks_len c0 ms.length
  have hmf : (ms.flatMap Mem.enc).length = (Mem.marks c0 ms.length).length * 2 := by rw [hml, flatMap_len Mem.enc_len]
  have HML := Lib.hid hml; clear hml
  have HZ := Lib.hid hmf; clear hmf
  by_cases hz : ms.length = 0
  · obtain rfl : ms = [] := List.length_eq_zero_iff.1 hz
    have HM := Lib.hid hm; clear hm HML HZ hz
    go_enter Tryd.func42, Tryd.ntmps42
    go_wp2
    refine wp_loop_rounds 1 ?_
    rw [rounds_succ]
    go_wp2
    go_ret
    refine ⟨by simp, ?_, ⟨rfl, rfl, rfl, Nat.le_refl _, fun _ _ _ => rfl⟩⟩
    simpa [Mem.marks] using HM.out
  · obtain ⟨g, rfl⟩ : ∃ g, a = some ⟨g, 0, none⟩ := by
      rcases hm.2 with ⟨_, h⟩ | ⟨g, _, _, h, _⟩
      · exact absurd h hz
      · simp only [Value.slice.injEq] at h
        exact ⟨g, h.1⟩
    have HO : Hid (w.ownsRow base 64 2 (.slice (some ⟨g, 0, none⟩) ms.length cap) ms.length (((Mem.marks c0 ms.length).take 0).flatMap Mem.enc ++ (ms.flatMap Mem.enc).drop (0 * 2))) := by simpa [Hid] using hm
    clear hm hz
    go_enter Tryd.func42, Tryd.ntmps42
    go_wp2
    go_loopw [1, 5] (fun s i wr => ∃ (k : Nat) (c : Int), k ≤ ms.length ∧ i = .int .i64 k ∧ s = .int .i64 c ∧ Hid (c = c0 + 2 * k) ∧ 0 ≤ c ∧ Hid (wr.ownsRow base 64 2 (.slice (some ⟨g, 0, none⟩) ms.length cap) ms.length (((Mem.marks c0 ms.length).take k).flatMap Mem.enc ++ (ms.flatMap Mem.enc).drop (k * 2))) ∧ Hid (w.grownBy wr (some g))) (fun _ i _ => ms.length - (intOf i).toNat)
    case atStart => exact ⟨0, c0, Nat.zero_le _, rfl, rfl, by simp [Hid], h0, HO, ⟨rfl, rfl, rfl, Nat.le_refl _, fun _ _ _ => rfl⟩⟩
    case round =>
      obtain ⟨k, c, hk, rfl, rfl, HC, hc0, ho, HG⟩ := hrel
      by_cases hlt : k < ms.length
      · have hcb : c + 2 ≤ 1099511627776 := by have := HC.out; omega
        go_wp2_with fail
        refine (markText_int _ _ (by omega) (by omega)).mono ?_
        rintro e w2 ⟨rfl, hb2⟩
        have ho0 := own_below (ho.out) hb2
        have HG0 := Lib.hid (grownBy_trans (World.grownBy_refl wr (some g)) (grown_of_below (row := some g) hb2))
        obtain ⟨v0, hv0⟩ := own_has (j := k * 2) ho0 (by omega)
        have f0 := ho0.frozenAt (k * 2)
        obtain ⟨v1, hv1⟩ := own_has (j := k * 2 + 1) ho0 (by omega)
        have f1 := ho0.frozenAt (k * 2 + 1)
        have HO0 := Lib.hid ho0
        clear ho0
        go_wp2
        obtain ⟨hs1, hg1⟩ := own_stores [Value.string (mtext c.toNat), Value.int .i64 (c + 1)] (k * 2) HO0.out
        have hget : (Mem.marks c0 ms.length)[k]'(by rw [HML.out]; exact hlt) = Mem.mk1 c := by rw [Mem.marks_get, HC.out]
        have hstep := row_step Mem.enc_len (Mem.marks c0 ms.length) (ms.flatMap Mem.enc) HZ.out (k := k) (by rw [HML.out]; exact hlt)
        rw [hget] at hstep
        go_roundw
        case rel => exact ⟨k + 1, c + 1 + 1, by omega, by go_num, rfl, by have := HC.out; unfold Hid; omega, by omega, own_as hs1 hstep, grownBy_trans HG.out (grownBy_trans HG0.out hg1)⟩
        case measure => simp [intOf]; omega
      · have ho2 := ho.out
        rw [row_end _ _ HZ.out (by rw [HML.out]; exact hlt)] at ho2
        have HO2 := Lib.hid ho2
        clear ho2
        go_wp2
        go_ret
        refine ⟨?_, HO2.out, HG.out⟩
        have := HC.out
        have e : k = ms.length := by omega
        rw [e] at this
        rw [← this]
        rfl

set_option maxHeartbeats 2000000 in
theorem heldMemberS_any (len : Nat) (a : Option Addr) (cap : Nat) (c0 : Int) (w : World) (hm : SliceAt w 2 Mem.enc a (Mem.marks c0 len)) (_hl : len ≤ 9223372036854775807) (h0 : 0 ≤ c0) (h1 : c0 + 2 * len ≤ 1099511627776) :
    Calls Tryd.prog 43 #[.slice a len cap, .int .i64 c0] w fun e w' => e = .returned (.int .i64 (c0 + 2 * len)) ∧ Below w.heap.size w w' := by
  have HM := Lib.hid hm; clear hm
  have HML := Lib.hid (Mem.marks_len c0 len)
  go_enter Tryd.func43, Tryd.ntmps43
  go_wp2
  go_loopw [1, 5] (fun s i wr => ∃ (k : Nat) (c : Int), k ≤ len ∧ i = .int .i64 k ∧ s = .int .i64 c ∧ Hid (c = c0 + 2 * k) ∧ 0 ≤ c ∧ Below w.heap.size w wr) (fun _ i _ => len - (intOf i).toNat)
  case atStart => exact ⟨0, c0, Nat.zero_le _, rfl, rfl, by simp [Hid], h0, Below.refl _ _⟩
  case round =>
    obtain ⟨k, c, hk, rfl, rfl, HC, hc0, hb⟩ := hrel
    by_cases hlt : k < len
    · have hcb : c + 2 ≤ 1099511627776 := by have := HC.out; omega
      have hkl : k < (Mem.marks c0 len).length := by rw [HML.out]; exact hlt
      obtain ⟨mb, mo, rfl, hcs⟩ := (HM.out.kept hb).open hkl
      have hget : (Mem.marks c0 len)[k] = Mem.mk1 c := by rw [Mem.marks_get, HC.out]
      have hc0 := hcs.at0 hkl (v := Value.string (mtext c.toNat)) (by rw [hget]; rfl)
      have hc1 := hcs k hkl 1 (Value.int .i64 (c + 1)) (by rw [hget]; rfl)
      clear hcs hget hkl
      go_wp2
      have q0 := cell_regrown hc0
      refine wp_region_quiet_below (by kernel_rfl) (by kernel_rfl) ?_
      repeat (go_big_quiet_step ((go_at_call 63; exact Calls.regrown_of (markText_int _ _ (by omega) (by omega)))))
      refine wpQuiet_nil ?_
      intro w2 hw'
      have hb2 := below_of_ex hw'
      clear hw' q0
      have hc1_0 := cell_kept hc1 hb2
      go_wp2
      go_roundw
      case rel => exact ⟨k + 1, c + 1 + 1, by omega, by go_num, rfl, by have := HC.out; unfold Hid; omega, by omega, (hb.trans (hb2.mono hb.size))⟩
      case measure => simp [intOf]; omega
    · go_wp2
      go_ret
      refine ⟨?_, hb⟩
      have := HC.out
      have e : k = len := by omega
      rw [e] at this
      rw [← this]
      rfl

end Go.Proofs.YtpodkgfapbcmlaaDoor
