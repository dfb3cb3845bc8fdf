/- The Play type's own functions in the statements (szS, toS, eqS): what they compute. No condition but bounds on sizes. -/
import Derived.Test.YtofcampipllegaaGreatDoorTx
namespace Go.Proofs.YtofcampipllegaaGreatDoor
open Go.ChangeShapes Go.WideShapes Go.ChangeAt Go.RowKit Go.Sort

set_option maxHeartbeats 1000000 in
theorem szPlayS_any (ms : List Ply) (a : Option Addr) (cap : Nat) (left : Int) (w : World) (hm : SliceAt w 4 Ply.enc a ms) (hl : ms.length ≤ 9223372036854775807) (hf : ∀ m ∈ ms, m.fit) (h0 : 0 ≤ left) (h1 : left ≤ 1048576) :
    Calls Tryz.prog 14 #[.slice a ms.length cap, .int .i64 left] w (SzPost w left (ms.length + szAll Ply.sz ms)) := by
  have HM := Lib.hid hm; clear hm
  have HF := Lib.hid hf; clear hf
  by_cases hlen : left - ms.length < 0
  · go_enter Tryz.func14, Tryz.ntmps14
    go_wp2
    go_ret
    exact ⟨_, rfl, .inl rfl, Below.refl _ _⟩
  · go_enter Tryz.func14, Tryz.ntmps14
    go_wp2
    go_loopw [1, 5] (fun l i wr => ∃ (k : Nat) (r : Int), k ≤ ms.length ∧ i = .int .i64 k ∧ l = .int .i64 r ∧ 0 ≤ r ∧ r + ms.length + szAll Ply.sz (ms.take k) = left ∧ Below w.heap.size w wr) (fun _ i _ => ms.length - (intOf i).toNat)
    case atStart => exact ⟨0, left - ms.length, Nat.zero_le _, rfl, rfl, by omega, by simp [szAll], Below.refl _ _⟩
    case round =>
      obtain ⟨k, r, hk, rfl, rfl, hr0, hr, hb⟩ := hrel
      have hr1 : r ≤ 1048576 := by omega
      have HR := Lib.hid hr; clear hr
      by_cases hlt : k < ms.length
      · obtain ⟨mb, mo, rfl, hc⟩ := (HM.out.kept hb).open hlt
        have hc0 := hc.at0 hlt rfl
        have hc1 := hc k hlt 1 _ rfl
        have hc2 := hc k hlt 2 _ rfl
        have hc3 := hc k hlt 3 _ rfl
        clear hc
        go_wp2_with fail
        refine (szPlay_any ms[k] r _ hr0 hr1 (HF.out _ (List.getElem_mem hlt))).mono ?_
        rintro e w2 ⟨r2, rfl, h2, hb2⟩
        rcases h2 with rfl | ⟨h20, h2⟩
        · go_wp2
          go_ret
          exact ⟨_, rfl, .inl rfl, hb.trans (hb2.mono hb.size)⟩
        · have h3 : ¬ r2 < 0 := by omega
          have H2 := Lib.hid h2; clear h2
          go_wp2
          go_roundw
          case rel => exact ⟨k + 1, r2, by omega, by go_num, rfl, h20, by rw [szAll_take hlt]; have := H2.out; have := HR.out; omega, hb.trans (hb2.mono hb.size)⟩
          case measure => simp [intOf]; omega
      · go_wp2
        go_ret
        refine ⟨_, rfl, .inr ⟨hr0, ?_⟩, hb⟩
        have := HR.out
        rw [List.take_of_length_le (by omega)] at this
        omega

theorem infoPlay : (Tryz.prog.info? 61).map (fun i => (i.zero, i.size, i.bytes)) = some (some (.agg #[.int .i64 0, .int .i64 0, .bool false, .string ⟨#[]⟩]), 4, 40) := by kernel_rfl

set_option maxHeartbeats 1000000 in
theorem toPlayS_any (ms : List Ply) (a : Option Addr) (cap : Nat) (w : World) (hm : SliceAt w 4 Ply.enc a ms) (hl : ms.length ≤ 1048576) :
    Calls Tryz.prog 18 #[.slice a ms.length cap] w (RowPost w 61 4 Ply.enc ms) := by
  have HM := Lib.hid hm; clear hm
  obtain ⟨i0, hi, hz0, hz1, hz2⟩ := info_parts infoPlay
  go_enter Tryz.func18, Tryz.ntmps18
  go_wp2_with (refine wpList_make_full _ rfl _ _ 37 rfl w.heap.size 61 i0 _ 4 Tryz.underlying37 hi hz0 hz1 .i64 .i64 _ _ ms.length rfl rfl rfl rfl ?c1 ?c2 (Nat.le_refl _) ?_)
  case c1 => rw [hz2]; omega
  case c2 => unfold maxLen; omega
  intro w1 hown hgr
  obtain ⟨Z, hZ, hown⟩ : ∃ Z : List Value, Z.length = ms.length * 4 ∧ w1.ownsRow w.heap.size 61 4 (.slice (some ⟨w.heap.size, 0, none⟩) ms.length ms.length) ms.length Z := ⟨_, by simp [size_madeCells], hown⟩
  have HZ := Lib.hid hZ; clear hZ
  have hbw : Below w.heap.size w w1 := ⟨hgr.os, hgr.tape, hgr.output, hgr.size, fun k hk => hgr.block k hk (by simp)⟩
  have HO : Hid (w1.ownsRow w.heap.size 61 4 (.slice (some ⟨w.heap.size, 0, none⟩) ms.length ms.length) ms.length ((ms.take 0).flatMap Ply.enc ++ Z.drop (0 * 4))) := by simpa [Hid] using hown
  clear hown hgr
  go_wp2
  go_loopw [4] (fun i wr => ∃ k : Nat, k ≤ ms.length ∧ i = .int .i64 k ∧ Hid (wr.ownsRow w.heap.size 61 4 (.slice (some ⟨w.heap.size, 0, none⟩) ms.length ms.length) ms.length ((ms.take k).flatMap Ply.enc ++ Z.drop (k * 4))) ∧ Below w.heap.size w wr) (fun i _ => ms.length - (intOf i).toNat)
  case atStart => exact ⟨0, Nat.zero_le _, rfl, HO, hbw⟩
  case round =>
    obtain ⟨k, hk, rfl, ho, hb⟩ := hrel
    by_cases hlt : k < ms.length
    · obtain ⟨mb, mo, rfl, hc⟩ := (HM.out.kept hb).open hlt
      have hc0 := hc.at0 hlt rfl
      have hc1 := hc k hlt 1 _ rfl
      have hc2 := hc k hlt 2 _ rfl
      have hc3 := hc k hlt 3 _ rfl
      clear hc
      go_wp2_with fail
      refine (toPlay_any ms[k] _).mono ?_
      rintro e w2 ⟨rfl, hb2⟩
      have ho2 := own_below ho.out hb2
      obtain ⟨v0, hv0⟩ := own_has (j := k * 4) ho2 (by omega)
      have f0 := ho2.frozenAt (k * 4)
      obtain ⟨v1, hv1⟩ := own_has (j := k * 4 + 1) ho2 (by omega)
      have f1 := ho2.frozenAt (k * 4 + 1)
      obtain ⟨v2, hv2⟩ := own_has (j := k * 4 + 2) ho2 (by omega)
      have f2 := ho2.frozenAt (k * 4 + 2)
      obtain ⟨v3, hv3⟩ := own_has (j := k * 4 + 3) ho2 (by omega)
      have f3 := ho2.frozenAt (k * 4 + 3)
      have HO2 := Lib.hid ho2
      clear ho2
      go_wp2
      obtain ⟨ho3, hg3⟩ := own_put Ply.enc_len HZ.out hlt HO2.out
      have hb3 : Below w.heap.size w w2 := hb.trans (hb2.mono hb.size)
      go_roundw
      case rel => exact ⟨k + 1, by omega, by go_num, ho3, below_grown hb3 hb3.size hg3 (Nat.le_refl _)⟩
      case measure => simp [intOf]; omega
    · have ho2 := ho.out
      rw [row_end ms Z HZ.out hlt] at ho2
      have HO2 := Lib.hid ho2
      clear ho2
      go_wp2
      go_ret
      exact ⟨_, rfl, HO2.out, hb⟩

set_option maxHeartbeats 1000000 in
theorem eqPlayS_any (ms : List Ply) (a b : Option Addr) (capa capb : Nat) (w : World) (ha : SliceAt w 4 Ply.enc a ms) (hb : SliceAt w 4 Ply.enc b ms) (hl : ms.length ≤ 9223372036854775807) :
    Calls Tryz.prog 21 #[.slice a ms.length capa, .slice b ms.length capb] w fun e w' => e = .returned (.bool true) ∧ Below w.heap.size w w' := by
  have HA := Lib.hid ha; clear ha
  have HB := Lib.hid hb; clear hb
  go_enter Tryz.func21, Tryz.ntmps21
  go_wp2
  go_loopw [5] (fun i wr => ∃ k : Nat, k ≤ ms.length ∧ i = .int .i64 k ∧ Below w.heap.size w wr) (fun i _ => ms.length - (intOf i).toNat)
  case atStart => exact ⟨0, Nat.zero_le _, rfl, Below.refl _ _⟩
  case round =>
    obtain ⟨k, hk, rfl, hb⟩ := hrel
    by_cases hlt : k < ms.length
    · obtain ⟨xb, xo, rfl, hc⟩ := (HA.out.kept hb).open hlt
      obtain ⟨yb, yo, rfl, hd⟩ := (HB.out.kept hb).open hlt
      have c0 := cell_regrown (hc.at0 hlt (v := .int .i64 ms[k].row) rfl)
      have d0 := cell_regrown (hd.at0 hlt (v := .int .i64 ms[k].row) rfl)
      have c1 := cell_regrown (hc k hlt 1 (.int .i64 ms[k].col) rfl)
      have d1 := cell_regrown (hd k hlt 1 (.int .i64 ms[k].col) rfl)
      have c2 := cell_regrown (hc k hlt 2 (.bool ms[k].down) rfl)
      have d2 := cell_regrown (hd k hlt 2 (.bool ms[k].down) rfl)
      have c3 := cell_regrown (hc k hlt 3 (.string ms[k].word) rfl)
      have d3 := cell_regrown (hd k hlt 3 (.string ms[k].word) rfl)
      clear hc hd
      go_wp2
      refine wp_region_quiet_below (by kernel_rfl) (by kernel_rfl) ?_
      repeat (go_big_quiet_step ((go_at_call 68; exact Calls.regrown_of (eqPlay_any ms[k] _))))
      refine wpQuiet_nil ?_
      intro _ hw'
      obtain ⟨⟨dq, oq⟩, hw''⟩ := hw'
      subst hw''
      go_wp2
      go_roundw
      case rel => exact ⟨k + 1, by omega, by go_num, hb.trans ((below_regrown _ _ _).mono hb.size)⟩
      case measure => simp [intOf]; omega
    · go_wp2
      go_ret
      exact ⟨rfl, hb⟩

end Go.Proofs.YtofcampipllegaaGreatDoor
