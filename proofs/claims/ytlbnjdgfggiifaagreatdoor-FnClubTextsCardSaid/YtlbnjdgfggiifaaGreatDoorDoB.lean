/- Contracts: the text of a result (program and reference), of the statements' own function: ResultText. -/
import Derived.Test.YtlbnjdgfggiifaaGreatDoorDoA
import Derived.Test.YtlbnjdgfggiifaaGreatDoorTxtP
import Derived.Test.YtlbnjdgfggiifaaGreatDoorVar
namespace Go.Proofs.YtlbnjdgfggiifaaGreatDoor
open Go.ChangeShapes Go.WideShapes Go.ChangeAt Go.RowKit Go.Sort

theorem name_len {l : List UInt8} (h : isNameL l = true) : 1 ≤ l.length ∧ l.length ≤ 12 := by
  simp only [isNameL, Bool.and_eq_true, decide_eq_true_eq] at h
  exact h.1.1
def SmallRes (r : Res) : Prop := r.a.size ≤ 1048576 ∧ r.b.size ≤ 1048576 ∧ (-9223372036854775808 ≤ r.sa ∧ r.sa ≤ 9223372036854775807) ∧ -9223372036854775808 ≤ r.sb ∧ r.sb ≤ 9223372036854775807
theorem resultL_bye {r : Res} (h : r.b.toList.isEmpty = true) : r.a ++ ⟨#[32, 98, 121, 101]⟩ = mkB (resultL r) := by
  unfold resultL
  rw [if_pos h, cat_mk]
  rfl
theorem resultL_game {r : Res} (h : r.b.toList.isEmpty = false) : r.a ++ ⟨#[32]⟩ ++ mkB (Lib.itoa r.sa) ++ ⟨#[32]⟩ ++ r.b ++ ⟨#[32]⟩ ++ mkB (Lib.itoa r.sb) = mkB (resultL r) := by
  unfold resultL
  rw [if_neg (by rw [h]; exact Bool.false_ne_true)]
  simp only [cat_mk, mkB_data, List.append_assoc]
  rfl
set_option maxRecDepth 100000 in
set_option maxHeartbeats 2000000 in
theorem l26ResultText_any (r : Res) (b o : Nat) (w : World) (hr : ResAt w b o r) (hs : SmallRes r) :
    Calls Tryz.prog 43 #[.pointer (some ⟨b, o, none⟩)] w (StrPost w (resultL r)) := by
  obtain ⟨c0, c1, c2, c3⟩ := hr
  obtain ⟨s0, s1, ⟨s2, s3⟩, s4, s5⟩ := hs
  cases hbe : r.b.toList.isEmpty with
  | true =>
    have HL := Lib.hid (resultL_bye hbe)
    go_enter Tryz.func43, Tryz.ntmps43
    go_wp2
    go_ret
    exact ⟨congrArg (fun b => Ending.returned (.string b)) HL.out, Below.refl _ _⟩
  | false =>
    have HL := Lib.hid (resultL_game hbe)
    have z1 : (mkB (Lib.itoa r.sa)).size ≤ 21 := by rw [mkB_size]; exact Lib.itoa_length_le _ s2 s3
    have z2 : (mkB (Lib.itoa r.sb)).size ≤ 21 := by rw [mkB_size]; exact Lib.itoa_length_le _ s4 s5
    have e0 := cell_regrown c0
    have e1 := cell_regrown c1
    have e2 := cell_regrown c2
    have e3 := cell_regrown c3
    go_enter Tryz.func43, Tryz.ntmps43
    go_wp2
    refine wp_region_quiet_below (by kernel_rfl) (by kernel_rfl) ?_
    repeat (go_big_quiet_step ((first
      | (go_at_call_of 60 (Value.int IntKind.i64 r.sa); exact Calls.regrown_of (l01Dec_any r.sa s2 s3 _))
      | (go_at_call_of 60 (Value.int IntKind.i64 r.sb); exact Calls.regrown_of (l01Dec_any r.sb s4 s5 _)))))
    refine wpQuiet_nil ?_
    intro wx hw'
    obtain ⟨⟨dq, oq⟩, hw''⟩ := hw'
    have hd : Below w.heap.size w wx := by rw [hw'']; exact below_regrown w dq oq
    clear hw''
    go_wp2
    go_ret
    exact ⟨congrArg (fun b => Ending.returned (.string b)) HL.out, hd⟩
theorem small_ok {r : Res} (h : resOk r = true) (_hf : r.fit) : SmallRes r := by
  cases hb : r.b.toList.isEmpty with
  | true =>
    obtain ⟨e, hn⟩ := res_bye h hb
    have h1 := (name_len hn).2
    rw [e]
    refine ⟨?_, (show (0 : Nat) ≤ 1048576 by omega), ⟨(show (-9223372036854775808 : Int) ≤ 0 by omega), (show (0 : Int) ≤ 9223372036854775807 by omega)⟩, (show (-9223372036854775808 : Int) ≤ 0 by omega), (show (0 : Int) ≤ 9223372036854775807 by omega)⟩
    show (mkB r.a.data.toList).size ≤ 1048576
    rw [mkB_size]
    omega
  | false =>
    obtain ⟨hn, hm, ⟨g1, g2⟩, g3, g4⟩ := res_game h hb
    have h1 := (name_len hn).2
    have h2 := (name_len hm).2
    have z1 : r.a.data.toList.length = r.a.size := Array.length_toList
    have z2 : r.b.data.toList.length = r.b.size := Array.length_toList
    exact ⟨by omega, by omega, ⟨by omega, by omega⟩, by omega, by omega⟩
/-- The cells of a struct that is boxed anew. -/
theorem new_res (w : World) (r : Res) (t : TypeId) : ResAt (w.alloc (.cells #[.string r.a, .string r.b, .int .i64 r.sa, .int .i64 r.sb] t)) w.heap.size 0 r :=
  ⟨cell_new0 w _ t rfl, cell_new0 w _ t rfl, cell_new0 w _ t rfl, cell_new0 w _ t rfl⟩
theorem resultText_ok {r : Res} (h : resOk r = true) : resultText r = mkB (resultL r) := by unfold resultText; rw [if_pos h]
theorem resultText_bad {r : Res} (h : resOk r = false) : resultText r = ⟨#[]⟩ := by unfold resultText; rw [if_neg (by rw [h]; exact Bool.false_ne_true)]
set_option maxRecDepth 100000 in
set_option maxHeartbeats 2000000 in
theorem specResultText_any (r : Res) (w : World) (hf : r.fit) :
    Calls Tryz.prog 21 #[.agg #[.string r.a, .string r.b, .int .i64 r.sa, .int .i64 r.sb]] w fun e w' => e = .returned (.string (resultText r)) ∧ Below w.heap.size w w' := by
  have hb : Below w.heap.size w (w.alloc (.cells #[.string r.a, .string r.b, .int .i64 r.sa, .int .i64 r.sb] 33)) := (Below.refl _ _).alloc (Nat.le_refl _) _
  have HA := Lib.hid (new_res w r 33)
  have HOK : Hid (resOk r = true → SmallRes r) := Lib.hid (fun h => small_ok h hf)
  cases hok : resOk r with
  | false =>
    have HT := Lib.hid (resultText_bad hok)
    go_enter Tryz.func21, Tryz.ntmps21
    go_wp2_with fail
    refine (l26Result_any _ 0 r _ HA.out hf).mono ?_
    rintro e w1 ⟨rfl, hd⟩
    rw [hok]
    clear hok HA
    have hb2 := hb.trans ((hd.below _).mono hb.size)
    clear hd hb
    go_wp2
    go_ret
    exact ⟨by rw [HT.out]; rfl, hb2⟩
  | true =>
    have HT := Lib.hid (resultText_ok hok)
    go_enter Tryz.func21, Tryz.ntmps21
    go_wp2_with fail
    refine (l26Result_any _ 0 r _ HA.out hf).mono ?_
    rintro e w1 ⟨rfl, hd⟩
    rw [hok]
    have HS := Lib.hid (HOK.out hok)
    have hd2 := hd.below (w.alloc (.cells #[.string r.a, .string r.b, .int .i64 r.sa, .int .i64 r.sb] 33)).heap.size
    have HA2 := Lib.hid (HA.out.kept hd2)
    have hb2 := hb.trans (hd2.mono hb.size)
    clear hok HA hd hd2 hb
    go_wp2_with fail
    refine (l26ResultText_any r _ 0 w1 HA2.out HS.out).mono ?_
    rintro e w2 ⟨rfl, hd⟩
    go_wp2
    go_ret
    exact ⟨by rw [HT.out]; rfl, hb2.trans (hd.mono hb2.size)⟩
theorem join2 (x y : List UInt8) : Lib.join [x, y] [32] = x ++ 32 :: y := by simp [Lib.join, List.intercalate]
theorem join4 (x y z t : List UInt8) : Lib.join [x, y, z, t] [32] = x ++ 32 :: (y ++ 32 :: (z ++ 32 :: t)) := by simp [Lib.join, List.intercalate]
theorem joined_bye {r : Res} (h : r.b.toList.isEmpty = true) : Lib.join ([r.a, ⟨#[98, 121, 101]⟩].map (·.data.toList)) [32] = resultL r := by
  unfold resultL
  rw [if_pos h]
  exact join2 _ _
theorem joined_game {r : Res} (h : r.b.toList.isEmpty = false) : Lib.join ([r.a, mkB (Lib.itoa r.sa), r.b, mkB (Lib.itoa r.sb)].map (·.data.toList)) [32] = resultL r := by
  unfold resultL
  rw [if_neg (by rw [h]; exact Bool.false_ne_true)]
  simp only [List.map_cons, List.map_nil, mkB_data]
  exact join4 _ _ _ _
theorem resultL_len {r : Res} (h : SmallRes r) : (resultL r).length ≤ 3000000 := by
  obtain ⟨s0, s1, ⟨s2, s3⟩, s4, s5⟩ := h
  have z1 : r.a.data.toList.length = r.a.size := Array.length_toList
  have z2 : r.b.data.toList.length = r.b.size := Array.length_toList
  have z3 := Lib.itoa_length_le _ s2 s3
  have z4 := Lib.itoa_length_le _ s4 s5
  unfold resultL
  split
  · simp only [List.length_append, List.length_cons, bye, List.length_nil]; omega
  · simp only [List.length_append, List.length_cons]; omega
theorem cells_strs (w : World) (xs : List ByteArray) (t : TypeId) : ∀ (j : Nat) x, xs[j]? = some x → (w.alloc (.cells (xs.map Value.string).toArray t)).cell? ⟨w.heap.size, 0 + j, none⟩ = some (.string x) := by
  intro j x hx
  rw [Nat.zero_add]
  refine cell_new0 w _ t ?_
  simp [hx]
set_option maxRecDepth 100000 in
set_option maxHeartbeats 4000000 in
theorem ResultText_any (r : Res) (w : World) (hf : r.fit) (ht : Tab w) :
    Calls Tryz.prog 11 #[.agg #[.string r.a, .string r.b, .int .i64 r.sa, .int .i64 r.sb]] w fun e w' => e = .returned (.string (resultText r)) ∧ Below w.heap.size w w' := by
  have hb : Below w.heap.size w (w.alloc (.cells #[.string r.a, .string r.b, .int .i64 r.sa, .int .i64 r.sb] 33)) := (Below.refl _ _).alloc (Nat.le_refl _) _
  have HT0 := Lib.hid (ht.kept hb)
  have HA := Lib.hid (new_res w r 33)
  have HOK : Hid (resOk r = true → SmallRes r) := Lib.hid (fun h => small_ok h hf)
  have HF := Lib.hid hf
  clear ht hf
  cases hok : resOk r with
  | false =>
    have HT := Lib.hid (resultText_bad hok)
    obtain ⟨c0, c1, c2, c3⟩ := HA.out
    go_enter Tryz.func11, Tryz.ntmps11
    go_wp2_with fail
    refine (validResult_any r _ HF.out).mono ?_
    rintro e w1 ⟨rfl, hd⟩
    rw [hok]
    clear hok HA c0 c1 c2 c3
    have hb2 := hb.trans (hd.mono hb.size)
    clear hd hb
    go_wp2
    go_ret
    exact ⟨by rw [HT.out]; rfl, hb2⟩
  | true =>
    have HT := Lib.hid (resultText_ok hok)
    have hsm := HOK.out hok
    have HLEN := Lib.hid (resultL_len hsm)
    obtain ⟨s0, s1, ⟨s2, s3⟩, s4, s5⟩ := hsm
    obtain ⟨c0, c1, c2, c3⟩ := HA.out
    go_enter Tryz.func11, Tryz.ntmps11
    go_wp2_with fail
    refine (validResult_any r _ HF.out).mono ?_
    rintro e w1 ⟨rfl, hd⟩
    rw [hok]
    obtain ⟨d0, d1, d2, d3⟩ := HA.out.kept hd
    rw [Nat.zero_add] at d1 d2 d3
    have HT1 := Lib.hid (HT0.out.kept hd)
    have hb2 := hb.trans (hd.mono hb.size)
    clear hok HA c0 c1 c2 c3 HT0 hd hb HOK
    cases hbe : r.b.toList.isEmpty with
    | true =>
      have HJ := Lib.hid (joined_bye hbe)
      have hx : Below w1.heap.size w1 (w1.alloc (.cells #[.string r.a, .string ⟨#[98, 121, 101]⟩] 9)) := (Below.refl _ _).alloc (Nat.le_refl _) _
      have HC := Lib.hid (cells_strs w1 [r.a, ⟨#[98, 121, 101]⟩] 9)
      go_wp2_with fail
      refine (joined_any [r.a, ⟨#[98, 121, 101]⟩] _ 2 _ HC.out (by simp) (by simp) (by simp) (by rw [HJ.out]; have := HLEN.out; omega)).mono ?_
      rintro e w2 ⟨rfl, hd⟩
      rw [HJ.out]
      go_wp2
      go_ret
      exact ⟨by rw [HT.out]; rfl, hb2.trans ((hx.trans (hd.mono hx.size)).mono hb2.size)⟩
    | false =>
      have HJ := Lib.hid (joined_game hbe)
      have hk : Below w1.heap.size w1 w1.drew := (Below.refl _ _).drew
      have k_0 : w1.drew.cell? ⟨w.heap.size, 0, none⟩ = some (.string r.a) := d0
      have k_1 : w1.drew.cell? ⟨w.heap.size, 1, none⟩ = some (.string r.b) := d1
      have k_2 : w1.drew.cell? ⟨w.heap.size, 2, none⟩ = some (.int .i64 r.sa) := d2
      have k_3 : w1.drew.cell? ⟨w.heap.size, 3, none⟩ = some (.int .i64 r.sb) := d3
      have l_0 := block_lt d0
      go_wp2
      go_region_held3 (fun w' => w'.cell? ⟨w.heap.size, 0, none⟩ = some (.string r.a) ∧ w'.cell? ⟨w.heap.size, 1, none⟩ = some (.string r.b) ∧ w'.cell? ⟨w.heap.size, 2, none⟩ = some (.int .i64 r.sa) ∧ w'.cell? ⟨w.heap.size, 3, none⟩ = some (.int .i64 r.sb))
        (first | exact ⟨k_0, k_1, k_2, k_3⟩ | exact ⟨cell_alloc k_0 _, cell_alloc k_1 _, cell_alloc k_2 _, cell_alloc k_3 _⟩)
        ((first
          | (go_at_call_of 29 (Value.int IntKind.i64 r.sa); refine (Decimal_any r.sa s2 s3 _ (HT1.out.kept hk)).mono ?_; rintro e wq ⟨rfl, hd⟩; replace hk := hk.trans (hd.mono hk.size); replace k_0 := cell_kept k_0 hd; replace k_1 := cell_kept k_1 hd; replace k_2 := cell_kept k_2 hd; replace k_3 := cell_kept k_3 hd; clear hd)
          | (go_at_call_of 29 (Value.int IntKind.i64 r.sb); refine (Decimal_any r.sb s4 s5 _ (HT1.out.kept hk)).mono ?_; rintro e wq ⟨rfl, hd⟩; replace hk := hk.trans (hd.mono hk.size); replace k_0 := cell_kept k_0 hd; replace k_1 := cell_kept k_1 hd; replace k_2 := cell_kept k_2 hd; replace k_3 := cell_kept k_3 hd; clear hd)
          | (go_at_call 28; refine (joined_any [r.a, mkB (Lib.itoa r.sa), r.b, mkB (Lib.itoa r.sb)] _ 4 _ (cells_strs _ [r.a, mkB (Lib.itoa r.sa), r.b, mkB (Lib.itoa r.sb)] 9) (by simp) (by simp) (by simp) (by rw [HJ.out]; have := HLEN.out; omega)).mono ?_; rintro e wq ⟨rfl, hd⟩; rw [HJ.out]; replace k_0 := cell_kept (cell_alloc k_0 _) hd; replace k_1 := cell_kept (cell_alloc k_1 _) hd; replace k_2 := cell_kept (cell_alloc k_2 _) hd; replace k_3 := cell_kept (cell_alloc k_3 _) hd)))
      all_goals (go_wp2; go_ret; exact ⟨by rw [HT.out]; rfl, hb2.trans ((hk.trans ((((Below.refl _ _).alloc (Nat.le_refl _) _).trans (hd.mono (by simp))).mono hk.size)).mono hb2.size)⟩)
end Go.Proofs.YtlbnjdgfggiifaaGreatDoor
