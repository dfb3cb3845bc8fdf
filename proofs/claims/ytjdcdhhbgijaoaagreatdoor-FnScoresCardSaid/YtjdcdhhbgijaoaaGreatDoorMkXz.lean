/- Contracts: the reference writes and reads a tile set's text. · Contract: the reference reads a word of a tile set's text: where all is well, and the empt · Contracts: the reference reads a tile set's text, and has the standard tile sets. -/
import Derived.Test.YtjdcdhhbgijaoaaGreatDoorMkSz
import Derived.Test.YtjdcdhhbgijaoaaGreatDoorNumW
import Derived.BigQuiet
import Derived.Deep.RegionHeld3
import Derived.StillTailTactics
import Derived.StillTail
namespace Go.Proofs.YtjdcdhhbgijaoaaGreatDoor
open Go.ChangeShapes Go.WideShapes Go.ChangeAt Go.RowKit Go.Sort

theorem tile_nums {t : Tls} (h : t.ok = true) {i : Nat} (hi : i < t.letters.size) : (0 ≤ t.values.getD i 0 ∧ t.values.getD i 0 ≤ 20) ∧ (0 ≤ t.counts.getD i 0 ∧ t.counts.getD i 0 ≤ 20) ∧ i < t.values.length ∧ i < t.counts.length := by
  have hg := Tls.good h
  obtain ⟨hb, hc⟩ := Tls.counts_rng h
  have h2 := hg.counts
  have h3 := hg.values
  exact ⟨hg.range i hi, hc i, by omega, by omega⟩
theorem tileW_len {t : Tls} (h : t.ok = true) {i : Nat} (hi : i < t.letters.size) : (tileW t i).length ≤ 44 := by
  obtain ⟨h1, h2, _⟩ := tile_nums h hi
  have z1 := Lib.itoa_length_le (t.values.getD i 0) (by omega) (by omega)
  have z2 := Lib.itoa_length_le (t.counts.getD i 0) (by omega) (by omega)
  unfold tileW
  simp only [List.length_cons, List.length_append]
  omega
theorem tilesK_len {t : Tls} (h : t.ok = true) : ∀ i, i ≤ t.letters.size → (tilesK t i).length ≤ 45 * i
  | 0, _ => Nat.le_refl _
  | i + 1, hi => by
    have h1 := tilesK_len h i (by omega)
    have h2 := tileW_len h (show i < t.letters.size by omega)
    unfold tilesK
    split
    · rename_i h0
      subst h0
      omega
    · simp only [List.length_cons, List.length_append]
      omega
theorem letter_one {s : ByteArray} {i : Nat} (hi : i < s.size) : s.extract i (i + 1) = mkB [s.data.toList.getD i 0] := by
  have hl : i < s.data.toList.length := by simpa using hi
  have e : (s.extract i (i + 1)).data.toList = [s.data.toList.getD i 0] := by
    rw [show (s.extract i (i + 1)).data.toList = (s.data.toList.take (i + 1)).drop i from by simp [List.drop_take], List.take_succ_eq_append_getElem hl, List.drop_append_of_le_length (by simp; omega), List.drop_eq_nil_of_le (by simp; omega)]
    rw [List.getD_eq_getElem?_getD, List.getElem?_eq_getElem hl]
    rfl
  rw [← mkB_of (s.extract i (i + 1)), e]
theorem tile_text (t : Tls) (i : Nat) : mkB [t.letters.data.toList.getD i 0] ++ mkB (Lib.itoa (t.values.getD i 0)) ++ ⟨#[120]⟩ ++ mkB (Lib.itoa (t.counts.getD i 0)) = mkB (tileW t i) := by
  unfold tileW
  simp only [cat_mk, mkB_data, List.append_assoc, List.singleton_append]
  rfl
theorem tiles_first (t : Tls) : mkB (tilesK t 0) ++ mkB (tileW t 0) = mkB (tilesK t 1) := by
  rw [cat_mk, mkB_data, mkB_data]
  rfl
theorem tiles_next (t : Tls) {i : Nat} (h : 0 < i) : mkB (tilesK t i) ++ ⟨#[32]⟩ ++ mkB (tileW t i) = mkB (tilesK t (i + 1)) := by
  have e : tilesK t (i + 1) = tilesK t i ++ 32 :: tileW t i := by
    conv => lhs; unfold tilesK
    rw [if_neg (by omega)]
  rw [e]
  simp only [cat_mk, mkB_data, List.append_assoc]
  rfl
theorem tiles_end (t : Tls) : mkB (tilesK t t.letters.size) ++ (⟨#[32, 63, 120]⟩ ++ mkB (Lib.itoa t.blanks)) = mkB (tilesK t t.letters.size ++ [32, 63, 120] ++ Lib.itoa t.blanks) := by
  simp only [cat_mk, mkB_data, List.append_assoc]
theorem tilesT_pos {t : Tls} (h : 0 < t.blanks) : tilesT t = tilesK t t.letters.size ++ [32, 63, 120] ++ Lib.itoa t.blanks := by unfold tilesT; rw [if_pos h]
theorem tilesT_zero {t : Tls} (h : ¬ 0 < t.blanks) : tilesT t = tilesK t t.letters.size := by unfold tilesT; rw [if_neg h]
set_option maxRecDepth 100000 in
set_option maxHeartbeats 4000000 in
theorem l02Text_any (t : Tls) (q : TlA) (g : Nat) (w : World) (ht : TAt w g t q) (hk : t.ok = true) :
    Calls Tryz.prog 278 #[.pointer (some ⟨g, 0, none⟩)] w (StrPost w (tilesT t)) := by
  have HT := Lib.hid ht
  have HOK := Lib.hid hk
  have h26 := (Tls.good hk).hi
  obtain ⟨hb0, hb4⟩ := (Tls.counts_rng hk).1
  have HVL := Lib.hid (Tls.good hk).values
  have HCL := Lib.hid (Tls.good hk).counts
  clear ht hk
  go_enter Tryz.func278, Tryz.ntmps278
  go_wp2_with fail
  go_loopw [3, 4] (fun ov iv wr => ∃ i : Nat, i ≤ t.letters.size ∧ iv = .int .i64 i ∧ ov = .string (mkB (tilesK t i)) ∧ Below w.heap.size w wr) (fun _ iv _ => t.letters.size - (intOf iv).toNat)
  case atStart => exact ⟨0, Nat.zero_le _, rfl, rfl, Below.refl _ _⟩
  case round =>
    obtain ⟨i, hi, rfl, rfl, hb⟩ := hrel
    have HT1 := Lib.hid (HT.out.kept hb)
    have c0 := HT1.out.1.1
    by_cases hlt : i < t.letters.size
    · obtain ⟨⟨v0, v1⟩, ⟨n0, n1⟩, hiv, hic⟩ := tile_nums HOK.out hlt
      obtain ⟨b1, o1, ha1, t1⟩ := num_cell HT1.out.2.1 hiv
      obtain ⟨b2, o2, ha2, t2⟩ := num_cell HT1.out.2.2 hic
      have c1 := HT1.out.1.2.1
      have c2 := HT1.out.1.2.2.1
      rw [ha1, HVL.out] at c1
      rw [ha2, HCL.out] at c2
      have HP := Lib.hid (letter_one hlt)
      have HL := Lib.hid (tile_text t i)
      have z3 := tilesK_len HOK.out i hi
      have z4 : (mkB (tileW t i)).size ≤ 44 := by rw [mkB_size]; exact tileW_len HOK.out hlt
      have z5 : (mkB (tilesK t i)).size ≤ 45 * 26 := by rw [mkB_size]; omega
      have HF := Lib.hid (tiles_first t)
      have HN := Lib.hid (fun h => tiles_next t (i := i) h)
      have HTK : Hid (∀ k, mkB (tilesK t k) = mkB (tilesK t k)) := Lib.hid (fun _ => rfl)
      generalize t.values.getD i 0 = va at *
      generalize t.counts.getD i 0 = ca at *
      have z1 : (mkB (Lib.itoa va)).size ≤ 21 := by rw [mkB_size]; exact Lib.itoa_length_le _ (by omega) (by omega)
      have z2 : (mkB (Lib.itoa ca)).size ≤ 21 := by rw [mkB_size]; exact Lib.itoa_length_le _ (by omega) (by omega)
      have D0 := Lib.hid (fun W => l01Dec_any va (by omega) (by omega) W)
      have D1 := Lib.hid (fun W => l01Dec_any ca (by omega) (by omega) W)
      have z6 : (t.letters.extract i (i + 1)).size = 1 := by rw [HP.out]; rfl
      clear z3 n0 n1 v0 v1 ha1 ha2 hiv hic HT1
      by_cases hi0 : 0 < i
      · go_upto_region 7 with fail
        have e0 := cell_regrown c0
        have e1 := cell_regrown c1
        have e2 := cell_regrown c2
        have v0 := cell_regrown t1
        have u0 := cell_regrown t2
        clear c0 c1 c2 t1 t2
        refine wp_region_quiet_below (by kernel_rfl) (by kernel_rfl) ?_
        repeat (go_big_quiet_step ((first
          | (go_at_call_of 221 (Value.int IntKind.i64 va); exact Calls.regrown_of (D0.out _))
          | (go_at_call_of 221 (Value.int IntKind.i64 ca); exact Calls.regrown_of (D1.out _)))))
        refine wpQuiet_nil ?_
        intro wx hw'
        obtain ⟨⟨dq, oq⟩, hw''⟩ := hw'
        have hd : Below wr.heap.size wr wx := by rw [hw'']; exact below_regrown wr dq oq
        replace hb := hb.trans (hd.mono hb.size)
        clear hw'' e0 e1 e2 v0 u0 D0 D1 hd
        go_wp2
        go_roundw
        case rel => exact ⟨i + 1, by omega, by go_num, by rw [HP.out, HL.out, HN.out hi0], hb⟩
        case measure => simp [intOf]; omega
      · obtain rfl : i = 0 := by omega
        rw [Nat.add_zero] at t1 t2
        rw [Nat.zero_add] at HP z6
        go_upto_region 7 with fail
        have e0 := cell_regrown c0
        have e1 := cell_regrown c1
        have e2 := cell_regrown c2
        have v0 := cell_regrown t1
        have u0 := cell_regrown t2
        clear c0 c1 c2 t1 t2
        refine wp_region_quiet_below (by kernel_rfl) (by kernel_rfl) ?_
        repeat (go_big_quiet_step ((first
          | (go_at_call_of 221 (Value.int IntKind.i64 va); exact Calls.regrown_of (D0.out _))
          | (go_at_call_of 221 (Value.int IntKind.i64 ca); exact Calls.regrown_of (D1.out _)))))
        refine wpQuiet_nil ?_
        intro wx hw'
        obtain ⟨⟨dq, oq⟩, hw''⟩ := hw'
        have hd : Below wr.heap.size wr wx := by rw [hw'']; exact below_regrown wr dq oq
        replace hb := hb.trans (hd.mono hb.size)
        clear hw'' e0 e1 e2 v0 u0 D0 D1 hd
        go_wp2
        go_roundw
        case rel => exact ⟨1, by omega, by go_num, by rw [HP.out, HL.out, HF.out], hb⟩
        case measure => simp [intOf]; omega
    · obtain rfl : i = t.letters.size := by omega
      have c3 := HT1.out.1.2.2.2
      by_cases hbl : 0 < t.blanks
      · have HE := Lib.hid (tilesT_pos hbl)
        have HX := Lib.hid (tiles_end t)
        have z3 := tilesK_len HOK.out t.letters.size (Nat.le_refl _)
        have z5 : (mkB (tilesK t t.letters.size)).size ≤ 45 * 26 := by rw [mkB_size]; omega
        have D0 := Lib.hid (fun W => l01Dec_any t.blanks (by omega) (by omega) W)
        have z1 : (mkB (Lib.itoa t.blanks)).size ≤ 21 := by rw [mkB_size]; exact Lib.itoa_length_le _ (by omega) (by omega)
        clear z3
        go_wp2_with fail
        refine (D0.out _).mono ?_
        rintro e wx ⟨rfl, hd⟩
        replace hb := hb.trans (hd.mono hb.size)
        clear hd c3 c0
        go_wp2
        go_ret
        exact ⟨by rw [HE.out, ← HX.out]; rfl, hb⟩
      · have HE := Lib.hid (tilesT_zero hbl)
        go_wp2
        go_ret
        exact ⟨by rw [HE.out]; rfl, hb⟩
end Go.Proofs.YtjdcdhhbgijaoaaGreatDoor
namespace Go.Proofs.YtjdcdhhbgijaoaaGreatDoor
open Go.ChangeShapes Go.WideShapes Go.ChangeAt Go.RowKit Go.Sort

theorem specStep_cases {t t2 : Tls} {w : List UInt8} (h : specStep t w = some t2) : t.low w = true ∧ ∃ p c n, ((splitL 120 w = [p, c] ∧ p ≠ []) ∨ ∃ r, splitL 120 w = [[], r, c] ∧ p = 120 :: r) ∧ specNum c = some n ∧ ((p = [63] ∧ 0 < n ∧ t2 = { t with blanks := n }) ∨ (p ≠ [63] ∧ ∃ v, specNum (p.drop 1) = some v ∧ t.blanks = 0 ∧ t2 = t.add (p.take 1) v n)) := by
  unfold specStep at h
  split at h
  · rename_i hl
    refine ⟨hl, ?_⟩
    split at h
    · cases h
    · rename_i p c hp
      split at h
      · cases h
      · rename_i n hn
        have hA : (splitL 120 w = [p, c] ∧ p ≠ []) ∨ ∃ r, splitL 120 w = [[], r, c] ∧ p = 120 :: r := by
          unfold partS at hp
          split at hp
          · rename_i p' c' hs
            split at hp
            · cases hp
            · rename_i hne
              cases hp
              exact .inl ⟨hs, hne⟩
          · rename_i p' q' r' hs
            split at hp
            · rename_i he
              cases hp
              subst he
              exact .inr ⟨q', hs, rfl⟩
            · cases hp
          · cases hp
        refine ⟨p, c, n, hA, hn, ?_⟩
        split at h
        · rename_i h63
          split at h
          · rename_i h0
            cases h
            exact .inl ⟨h63, h0, rfl⟩
          · cases h
        · rename_i h63
          split at h
          · cases h
          · rename_i v hv
            split at h
            · rename_i hb0
              cases h
              exact .inr ⟨h63, v, hv, hb0, rfl⟩
            · cases h
  · cases h
theorem part_len {c : UInt8} {l x : List UInt8} (h : x ∈ splitL c l) : x.length ≤ l.length := by
  induction l generalizing x with
  | nil => simp [splitL] at h; simp [h]
  | cons b l ih =>
    unfold splitL at h
    split at h
    · rcases List.mem_cons.1 h with rfl | h
      · simp
      · have := ih h; simp only [List.length_cons]; omega
    · split at h
      · rw [List.mem_singleton.1 h]; simp
      · rename_i y ys hs
        rcases List.mem_cons.1 h with rfl | h
        · have := ih (x := y) (by rw [hs]; exact List.mem_cons_self)
          simp only [List.length_cons]
          omega
        · have := ih (x := x) (by rw [hs]; exact List.mem_cons_of_mem _ h)
          simp only [List.length_cons]
          omega
set_option maxRecDepth 100000 in
set_option maxHeartbeats 8000000 in
theorem l02Word_any (t t2 : Tls) (q : TlA) (g : Nat) (s : ByteArray) (w : World) (hg : TBox w g t q) (hs : specStep t s.data.toList = some t2) :
    Calls Tryz.prog 277 #[.pointer (some ⟨g, 0, none⟩), .string s] w fun e w' => ∃ q2, e = .returned (.bool true) ∧ TBox w' g t2 q2 ∧ Wrote g (W3 g q) w w' ∧ TNew w q q2 := by
  obtain ⟨i0, hi0, hi1, hi2, hi3⟩ := info_parts infoI64
  obtain ⟨hlow, p, c, n, hA, hn, hR⟩ := specStep_cases hs
  obtain ⟨l1, l2, l3, l4⟩ := Tls.low_parts hlow
  have hsz : s.size ≤ 40 := by have : s.data.toList.length = s.size := Array.length_toList; omega
  have HSP := Lib.hid (l01Split_any s 120 w (by omega))
  have hcl : c.length ≤ 40 := by
    rcases hA with ⟨h, _⟩ | ⟨r, h, _⟩
    · have := part_len (c := 120) (l := s.data.toList) (x := c) (by rw [h]; simp); omega
    · have := part_len (c := 120) (l := s.data.toList) (x := c) (by rw [h]; simp); omega
  have hpl : p.length ≤ 41 ∧ p ≠ [] := by
    rcases hA with ⟨h, h1⟩ | ⟨r, h, h1⟩
    · have := part_len (c := 120) (l := s.data.toList) (x := p) (by rw [h]; simp); exact ⟨by omega, h1⟩
    · have := part_len (c := 120) (l := s.data.toList) (x := r) (by rw [h]; simp); subst h1; exact ⟨by simp only [List.length_cons]; omega, by simp⟩
  have HC : Hid (∀ W, Calls Tryz.prog 223 #[.string (mkB c)] W fun e w' => e = .returned (.tuple #[.int .i64 n, .bool true]) ∧ Below W.heap.size W w') := Lib.hid (fun W => by
    have h := l01Number_any (mkB c) W (by rw [mkB_size]; omega)
    rw [mkB_data, hn] at h
    exact h)
  have hps : (mkB p).size ≤ 41 := by rw [mkB_size]; exact hpl.1
  have hp1 : 1 ≤ (mkB p).size := by
    rw [mkB_size]
    cases p with
    | nil => exact absurd rfl hpl.2
    | cons a r => simp
  have HV : Hid (∀ v, specNum (p.drop 1) = some v → ∀ W, Calls Tryz.prog 223 #[.string ((mkB p).extract 1 (mkB p).size)] W fun e w' => e = .returned (.tuple #[.int .i64 v, .bool true]) ∧ Below W.heap.size W w') := Lib.hid (fun v hv W => by
    have h := l01Number_any ((mkB p).extract 1 (mkB p).size) W (by rw [ByteArray.size_extract]; omega)
    rw [Lib.extract_to_end, mkB_data, hv] at h
    exact h)
  have HP63 : Hid (((mkB p).toList == [63]) = decide (p = [63])) := Lib.hid (by rw [mkB_list]; rw [Bool.eq_iff_iff]; simp)
  have hpe : (mkB p).toList.isEmpty = false := by
    rw [mkB_list]
    cases p with
    | nil => exact absurd rfl hpl.2
    | cons a r => rfl
  have HTK : Hid ((mkB p).extract 0 1 = mkB (p.take 1)) := Lib.hid (by
    rw [← mkB_of ((mkB p).extract 0 1)]
    congr 1
    simp [mkB_data])
  have HB := Lib.hid hg
  have hgl := hg.lt
  have HL8 : Hid (t.letters.size ≤ 26) := Lib.hid l1
  have hlo := hg.lt
  clear hs hlow hn hg
  rcases hA with ⟨hsp, _⟩ | ⟨r, hsp, hpr⟩
  · rw [hsp] at HSP
    clear hsp
    generalize hPg : mkB p = P at *
    generalize hCg : mkB c = C at *
    go_enter Tryz.func277, Tryz.ntmps277
    go_wp2_with fail
    refine HSP.out.mono ?_
    rintro e w2 ⟨G, cap, rfl, ho, hd⟩
    have k0 : w2.cell? ⟨G, 0, none⟩ = some (.string P) := by rw [← hPg]; exact ho.cellAt 0 (by simp)
    have k1 : w2.cell? ⟨G, 1, none⟩ = some (.string C) := by rw [← hCg]; exact ho.cellAt 1 (by simp)
    replace HB := Lib.hid (HB.out.kept hd)
    have hb : Wrote g (W3 g q) w w2 := Wrote.of_below hd (Nat.le_of_lt hgl)
    replace hgl := Nat.lt_of_lt_of_le hgl hd.size
    clear hd ho HSP
    clear hPg hCg
    go_upto_region 6 with fail
    go_wp2_with fail
    refine (HC.out _).mono ?_
    rintro e wn ⟨rfl, hd⟩
    replace HB := Lib.hid (HB.out.kept hd)
    replace hb := hb.same (Wrote.of_below hd (Nat.le_of_lt hgl))
    replace hgl := Nat.lt_of_lt_of_le hgl hd.size
    replace k0 := cell_kept k0 hd
    replace k1 := cell_kept k1 hd
    clear hd HC
    rcases hR with ⟨h63, h0, rfl⟩ | ⟨h63, v, hv, hb0, rfl⟩
    · have q63 : (P.toList == [63]) = true := by rw [HP63.out]; exact decide_eq_true h63
      have c3 := HB.out.var.cell (i := 3) rfl
      have f3 := HB.out.var.free 3
      obtain ⟨HB9, hb9⟩ := HB.out.setB n
      replace hb := hb.same (hb9.sub w3_box)
      clear hb9 h63 HV
      go_wp2
      go_ret
      exact ⟨q, rfl, HB9, hb, TNew.refl _ _⟩
    · have q63 : (P.toList == [63]) = false := by rw [HP63.out]; exact decide_eq_false h63
      have HV1 := Lib.hid (HV.out v hv)
      clear h63 HV hv
      go_wp2_with fail
      refine (HV1.out _).mono ?_
      rintro e wv ⟨rfl, hd⟩
      replace HB := Lib.hid (HB.out.kept hd)
      replace hb := hb.same (Wrote.of_below hd (Nat.le_of_lt hgl))
      replace hgl := Nat.lt_of_lt_of_le hgl hd.size
      replace k0 := cell_kept k0 hd
      replace k1 := cell_kept k1 hd
      clear hd HV1
      have c0 := HB.out.var.cell (i := 0) rfl
      have f0 := HB.out.var.free 0
      go_upto_region 11 with fail
      have hd : Below wv.heap.size wv wv.drew := (Below.refl _ _).drew
      clear c0 f0
      replace HB := Lib.hid (HB.out.kept hd)
      replace hb := hb.same (Wrote.of_below hd (Nat.le_of_lt hgl))
      replace hgl := Nat.lt_of_lt_of_le hgl hd.size
      replace k0 := cell_kept k0 hd
      replace k1 := cell_kept k1 hd
      clear hd
      have c0 := HB.out.var.cell (i := 0) rfl
      have f0 := HB.out.var.free 0
      have h8 := HL8.out
      have hp1i : (1 : Int) ≤ (P.size : Int) := by omega
      have hx1 : min 1 P.size = 1 := by omega
      have hx2 : ¬ 9223372036854775807 < t.letters.size + 1 := by omega
      refine wp_region_still_tail 11 (by kernel_rfl) (by kernel_rfl) ?_
      simp only [List.take_succ_cons, List.take_zero, List.drop_succ_cons, List.drop_zero]
      change wpStill _ _ wv.drew (fun a' => wpList _ _ _ _ a' wv.drew) _ _
      generalize wv.drew = wd at *
      repeat still_step
      refine wpStill_nil ?_
      obtain ⟨hB9, hb9⟩ := HB.out.setL (t.letters ++ P.extract 0 1)
      replace hb := hb.same (hb9.sub w3_box)
      replace HB := Lib.hid hB9
      have hgl := hB9.lt
      clear hB9 hb9 k1
      go_upto_region 12 with fail
      clear c0 f0 k0
      generalize wd.setCell ⟨g, 0, none⟩ (.string (t.letters ++ P.extract 0 1)) = we at *
      obtain ⟨x, hxe⟩ : ∃ y : Tls, y = { t with letters := t.letters ++ P.extract 0 1 } := ⟨_, rfl⟩
      have HX : Hid ({ x with values := x.values ++ [v], counts := x.counts ++ [n] } = t.add (p.take 1) v n) := Lib.hid (by rw [hxe]; unfold Tls.add; rw [← HTK.out])
      have hxv : x.values.length ≤ 26 := by rw [hxe]; exact l2
      have hxc : x.counts.length ≤ 26 := by rw [hxe]; exact l3
      have hxb : x.blanks = 0 := by rw [hxe]; exact hb0
      rw [← hxe] at HB
      clear hxe
      have c1 := HB.out.var.cell (i := 1) rfl
      have hx : Below we.heap.size we (we.alloc (.cells #[.int .i64 v] 2)) := (Below.refl _ _).alloc (Nat.le_refl _) _
      have KN := Lib.hid (new_i64 we v 2)
      have HBX := Lib.hid (HB.out.kept hx)
      have hbx := hb.same (Wrote.of_below hx (Nat.le_of_lt hgl))
      have hgx : g + 1 ≤ (we.alloc (.cells #[.int .i64 v] 2)).heap.size := Nat.le_trans hgl hx.size
      clear HB hb hx
      go_wp2_with (at_builtin; go_must (refine wpList_append_lies _ rfl (.tmp 81) (.tmp 83) 42 rfl (g + 1) 2 i0 _ 1 8 Tryz.underlying42 hi0 hi1 hi2 hi3 rfl (by decide) _ x.values.length (x.values.flatMap I64.enc) (by rfl) HBX.out.vals ⟨we.heap.size, 0, none⟩ 1 1 (I64.enc v) (by rfl) rfl KN.out (i64_one v) (by decide) ?c1 ?c2 hgx _ rfl ?_))
      case c1 => unfold maxLen; omega
      case c2 => omega
      intro g7 cap7 w7 hown hgr hwh hlt7
      have hwh2 : (Value.slice q.values.a x.values.length q.values.c).ownBlock = some g7 ∨ g7 = (we.alloc (.cells #[.int .i64 v] 2)).heap.size := hwh.imp_right (fun e => e.trans (by simp))
      have hV := (HBX.out.wrote hgr (fun k hk => (own_lt HBX.out.vals k hk).1)).2
      have e1 := hV.cell (i := 1) rfl
      have f1 := hV.free 1
      obtain ⟨hB9, hb9⟩ := HBX.out.addv hown hgr hwh2
      have hb := hbx.same (hb9.sub w3_vals)
      have hnv := own_or hwh2 hbx.size
      obtain ⟨x1, hx1⟩ : ∃ y : Tls, y = { x with values := x.values ++ [v] } := ⟨_, rfl⟩
      rw [← hx1] at hB9
      have HB := Lib.hid hB9
      have hgl := hB9.lt
      have hxc1 : x1.counts.length ≤ 26 := by rw [hx1]; exact hxc
      have hxb1 : x1.blanks = 0 := by rw [hx1]; exact hxb
      have HX1 : Hid ({ x1 with counts := x1.counts ++ [n] } = t.add (p.take 1) v n) := Lib.hid (by rw [hx1]; exact HX.out)
      clear hown hgr hwh hwh2 hlt7 hV hB9 hb9 HBX hbx hgx KN c1
      go_upto_region 13 with fail
      clear e1 f1
      generalize w7.setCell ⟨g, 1, none⟩ (.slice (some ⟨g7, 0, none⟩) (x.values.length + 1) cap7) = wf at *
      clear hx1 hxv hxc hxb HX
      have c1 := HB.out.var.cell (i := 2) rfl
      have hx : Below wf.heap.size wf (wf.alloc (.cells #[.int .i64 n] 2)) := (Below.refl _ _).alloc (Nat.le_refl _) _
      have KN := Lib.hid (new_i64 wf n 2)
      have HBX := Lib.hid (HB.out.kept hx)
      have hbx := hb.same (Wrote.of_below hx (Nat.le_of_lt hgl))
      have hgx : g + 1 ≤ (wf.alloc (.cells #[.int .i64 n] 2)).heap.size := Nat.le_trans hgl hx.size
      clear HB hb hx
      go_wp2_with (at_builtin; go_must (refine wpList_append_lies _ rfl (.tmp 91) (.tmp 93) 42 rfl (g + 1) 2 i0 _ 1 8 Tryz.underlying42 hi0 hi1 hi2 hi3 rfl (by decide) _ x1.counts.length (x1.counts.flatMap I64.enc) (by rfl) HBX.out.cnts ⟨wf.heap.size, 0, none⟩ 1 1 (I64.enc n) (by rfl) rfl KN.out (i64_one n) (by decide) ?c1 ?c2 hgx _ rfl ?_))
      case c1 => unfold maxLen; omega
      case c2 => omega
      intro g7 cap7 w7 hown hgr hwh hlt7
      have hwh2 : (Value.slice q.counts.a x1.counts.length q.counts.c).ownBlock = some g7 ∨ g7 = (wf.alloc (.cells #[.int .i64 n] 2)).heap.size := hwh.imp_right (fun e => e.trans (by simp))
      have hV := (HBX.out.wrote hgr (fun k hk => (own_lt HBX.out.cnts k hk).1)).2
      have e1 := hV.cell (i := 2) rfl
      have f1 := hV.free 2
      obtain ⟨hB9, hb9⟩ := HBX.out.addc hown hgr hwh2
      have hb := hbx.same (hb9.sub (w3_cnts rfl))
      have hnc := own_or hwh2 hbx.size
      obtain ⟨x2, hx2⟩ : ∃ y : Tls, y = { x1 with counts := x1.counts ++ [n] } := ⟨_, rfl⟩
      rw [← hx2] at hB9
      have HB := Lib.hid hB9
      have hgl := hB9.lt
      have hxb2 : x2.blanks = 0 := by rw [hx2]; exact hxb1
      have HX2 : Hid (x2 = t.add (p.take 1) v n) := Lib.hid (by rw [hx2]; exact HX1.out)
      clear hown hgr hwh hwh2 hlt7 hV hB9 hb9 HBX hbx hgx KN c1
      go_upto_region 14 with fail
      clear e1 f1
      generalize w7.setCell ⟨g, 2, none⟩ (.slice (some ⟨g7, 0, none⟩) (x1.counts.length + 1) cap7) = wh at *
      have c3 := HB.out.var.cell (i := 3) (v := .int .i64 x2.blanks) rfl
      rw [hxb2] at c3
      clear hx2 hxb1 HX1 hxb2
      go_wp2
      go_ret
      have hfin := HB.out
      rw [HX2.out] at hfin
      exact ⟨rfl, _, hfin, hb, ⟨hnv, hnc⟩⟩
  · have hrl : r.length ≤ 40 := by
      have := part_len (c := 120) (l := s.data.toList) (x := r) (by rw [hsp]; simp); omega
    have hrs : (mkB r).size ≤ 40 := by rw [mkB_size]; exact hrl
    rw [hsp] at HSP
    have HPR : Hid ((⟨#[120]⟩ : ByteArray) ++ mkB r = mkB p) := Lib.hid (by rw [hpr, cat_mk, mkB_data]; rfl)
    clear hsp hpr hrl
    generalize hPg : mkB p = P at *
    generalize hCg : mkB c = C at *
    generalize hRg : mkB r = Rr at *
    go_enter Tryz.func277, Tryz.ntmps277
    go_wp2_with fail
    refine HSP.out.mono ?_
    rintro e w2 ⟨G, cap, rfl, ho, hd⟩
    have k0 : w2.cell? ⟨G, 0, none⟩ = some (.string ⟨#[]⟩) := ho.cellAt 0 (by simp)
    have k1 : w2.cell? ⟨G, 1, none⟩ = some (.string Rr) := by rw [← hRg]; exact ho.cellAt 1 (by simp)
    have k2 : w2.cell? ⟨G, 2, none⟩ = some (.string C) := by rw [← hCg]; exact ho.cellAt 2 (by simp)
    replace HB := Lib.hid (HB.out.kept hd)
    have hb : Wrote g (W3 g q) w w2 := Wrote.of_below hd (Nat.le_of_lt hgl)
    replace hgl := Nat.lt_of_lt_of_le hgl hd.size
    clear hd ho HSP
    clear hPg hCg hRg
    go_upto_region 5 with fail
    have hd : Below w2.heap.size w2 w2.drew := (Below.refl _ _).drew
    replace HB := Lib.hid (HB.out.kept hd)
    replace hb := hb.same (Wrote.of_below hd (Nat.le_of_lt hgl))
    replace hgl := Nat.lt_of_lt_of_le hgl hd.size
    replace k0 := cell_kept k0 hd
    replace k1 := cell_kept k1 hd
    replace k2 := cell_kept k2 hd
    clear hd k0
    have hx2 : ¬ 9223372036854775807 < 1 + Rr.size := by omega
    refine wp_region_still_tail 7 (by kernel_rfl) (by kernel_rfl) ?_
    simp only [List.take_succ_cons, List.take_zero, List.drop_succ_cons, List.drop_zero]
    change wpStill _ _ w2.drew (fun a' => wpList _ _ _ _ a' w2.drew) _ _
    generalize w2.drew = wd at *
    repeat still_step
    refine wpStill_nil ?_
    rw [HPR.out]
    have hd : Below wd.heap.size wd (wd.alloc (.cells #[.string P, .string C] 9)) := (Below.refl _ _).alloc (Nat.le_refl _) _
    have k0 := cell_new0 wd #[.string P, .string C] 9 (i := 0) (v := .string P) rfl
    have k9 := cell_new0 wd #[.string P, .string C] 9 (i := 1) (v := .string C) rfl
    clear k1 k2 hx2 HPR
    have k1 := k9
    clear k9
    replace HB := Lib.hid (HB.out.kept hd)
    replace hb := hb.same (Wrote.of_below hd (Nat.le_of_lt hgl))
    replace hgl := Nat.lt_of_lt_of_le hgl hd.size
    clear hd
    go_upto_region 6 with fail
    generalize wd.alloc (.cells #[.string P, .string C] 9) = wq at *
    generalize wd.heap.size = GG at *
    go_wp2_with fail
    refine (HC.out _).mono ?_
    rintro e wn ⟨rfl, hd⟩
    replace HB := Lib.hid (HB.out.kept hd)
    replace hb := hb.same (Wrote.of_below hd (Nat.le_of_lt hgl))
    replace hgl := Nat.lt_of_lt_of_le hgl hd.size
    replace k0 := cell_kept k0 hd
    replace k1 := cell_kept k1 hd
    clear hd HC
    rcases hR with ⟨h63, h0, rfl⟩ | ⟨h63, v, hv, hb0, rfl⟩
    · have q63 : (P.toList == [63]) = true := by rw [HP63.out]; exact decide_eq_true h63
      have c3 := HB.out.var.cell (i := 3) rfl
      have f3 := HB.out.var.free 3
      obtain ⟨HB9, hb9⟩ := HB.out.setB n
      replace hb := hb.same (hb9.sub w3_box)
      clear hb9 h63 HV
      go_wp2
      go_ret
      exact ⟨q, rfl, HB9, hb, TNew.refl _ _⟩
    · have q63 : (P.toList == [63]) = false := by rw [HP63.out]; exact decide_eq_false h63
      have HV1 := Lib.hid (HV.out v hv)
      clear h63 HV hv
      go_wp2_with fail
      refine (HV1.out _).mono ?_
      rintro e wv ⟨rfl, hd⟩
      replace HB := Lib.hid (HB.out.kept hd)
      replace hb := hb.same (Wrote.of_below hd (Nat.le_of_lt hgl))
      replace hgl := Nat.lt_of_lt_of_le hgl hd.size
      replace k0 := cell_kept k0 hd
      replace k1 := cell_kept k1 hd
      clear hd HV1
      have c0 := HB.out.var.cell (i := 0) rfl
      have f0 := HB.out.var.free 0
      go_upto_region 11 with fail
      have hd : Below wv.heap.size wv wv.drew := (Below.refl _ _).drew
      clear c0 f0
      replace HB := Lib.hid (HB.out.kept hd)
      replace hb := hb.same (Wrote.of_below hd (Nat.le_of_lt hgl))
      replace hgl := Nat.lt_of_lt_of_le hgl hd.size
      replace k0 := cell_kept k0 hd
      replace k1 := cell_kept k1 hd
      clear hd
      have c0 := HB.out.var.cell (i := 0) rfl
      have f0 := HB.out.var.free 0
      have h8 := HL8.out
      have hp1i : (1 : Int) ≤ (P.size : Int) := by omega
      have hx1 : min 1 P.size = 1 := by omega
      have hx2 : ¬ 9223372036854775807 < t.letters.size + 1 := by omega
      refine wp_region_still_tail 11 (by kernel_rfl) (by kernel_rfl) ?_
      simp only [List.take_succ_cons, List.take_zero, List.drop_succ_cons, List.drop_zero]
      change wpStill _ _ wv.drew (fun a' => wpList _ _ _ _ a' wv.drew) _ _
      generalize wv.drew = wd at *
      repeat still_step
      refine wpStill_nil ?_
      obtain ⟨hB9, hb9⟩ := HB.out.setL (t.letters ++ P.extract 0 1)
      replace hb := hb.same (hb9.sub w3_box)
      replace HB := Lib.hid hB9
      have hgl := hB9.lt
      clear hB9 hb9 k1
      go_upto_region 12 with fail
      clear c0 f0 k0
      generalize wd.setCell ⟨g, 0, none⟩ (.string (t.letters ++ P.extract 0 1)) = we at *
      obtain ⟨x, hxe⟩ : ∃ y : Tls, y = { t with letters := t.letters ++ P.extract 0 1 } := ⟨_, rfl⟩
      have HX : Hid ({ x with values := x.values ++ [v], counts := x.counts ++ [n] } = t.add (p.take 1) v n) := Lib.hid (by rw [hxe]; unfold Tls.add; rw [← HTK.out])
      have hxv : x.values.length ≤ 26 := by rw [hxe]; exact l2
      have hxc : x.counts.length ≤ 26 := by rw [hxe]; exact l3
      have hxb : x.blanks = 0 := by rw [hxe]; exact hb0
      rw [← hxe] at HB
      clear hxe
      have c1 := HB.out.var.cell (i := 1) rfl
      have hx : Below we.heap.size we (we.alloc (.cells #[.int .i64 v] 2)) := (Below.refl _ _).alloc (Nat.le_refl _) _
      have KN := Lib.hid (new_i64 we v 2)
      have HBX := Lib.hid (HB.out.kept hx)
      have hbx := hb.same (Wrote.of_below hx (Nat.le_of_lt hgl))
      have hgx : g + 1 ≤ (we.alloc (.cells #[.int .i64 v] 2)).heap.size := Nat.le_trans hgl hx.size
      clear HB hb hx
      go_wp2_with (at_builtin; go_must (refine wpList_append_lies _ rfl (.tmp 81) (.tmp 83) 42 rfl (g + 1) 2 i0 _ 1 8 Tryz.underlying42 hi0 hi1 hi2 hi3 rfl (by decide) _ x.values.length (x.values.flatMap I64.enc) (by rfl) HBX.out.vals ⟨we.heap.size, 0, none⟩ 1 1 (I64.enc v) (by rfl) rfl KN.out (i64_one v) (by decide) ?c1 ?c2 hgx _ rfl ?_))
      case c1 => unfold maxLen; omega
      case c2 => omega
      intro g7 cap7 w7 hown hgr hwh hlt7
      have hwh2 : (Value.slice q.values.a x.values.length q.values.c).ownBlock = some g7 ∨ g7 = (we.alloc (.cells #[.int .i64 v] 2)).heap.size := hwh.imp_right (fun e => e.trans (by simp))
      have hV := (HBX.out.wrote hgr (fun k hk => (own_lt HBX.out.vals k hk).1)).2
      have e1 := hV.cell (i := 1) rfl
      have f1 := hV.free 1
      obtain ⟨hB9, hb9⟩ := HBX.out.addv hown hgr hwh2
      have hb := hbx.same (hb9.sub w3_vals)
      have hnv := own_or hwh2 hbx.size
      obtain ⟨x1, hx1⟩ : ∃ y : Tls, y = { x with values := x.values ++ [v] } := ⟨_, rfl⟩
      rw [← hx1] at hB9
      have HB := Lib.hid hB9
      have hgl := hB9.lt
      have hxc1 : x1.counts.length ≤ 26 := by rw [hx1]; exact hxc
      have hxb1 : x1.blanks = 0 := by rw [hx1]; exact hxb
      have HX1 : Hid ({ x1 with counts := x1.counts ++ [n] } = t.add (p.take 1) v n) := Lib.hid (by rw [hx1]; exact HX.out)
      clear hown hgr hwh hwh2 hlt7 hV hB9 hb9 HBX hbx hgx KN c1
      go_upto_region 13 with fail
      clear e1 f1
      generalize w7.setCell ⟨g, 1, none⟩ (.slice (some ⟨g7, 0, none⟩) (x.values.length + 1) cap7) = wf at *
      clear hx1 hxv hxc hxb HX
      have c1 := HB.out.var.cell (i := 2) rfl
      have hx : Below wf.heap.size wf (wf.alloc (.cells #[.int .i64 n] 2)) := (Below.refl _ _).alloc (Nat.le_refl _) _
      have KN := Lib.hid (new_i64 wf n 2)
      have HBX := Lib.hid (HB.out.kept hx)
      have hbx := hb.same (Wrote.of_below hx (Nat.le_of_lt hgl))
      have hgx : g + 1 ≤ (wf.alloc (.cells #[.int .i64 n] 2)).heap.size := Nat.le_trans hgl hx.size
      clear HB hb hx
      go_wp2_with (at_builtin; go_must (refine wpList_append_lies _ rfl (.tmp 91) (.tmp 93) 42 rfl (g + 1) 2 i0 _ 1 8 Tryz.underlying42 hi0 hi1 hi2 hi3 rfl (by decide) _ x1.counts.length (x1.counts.flatMap I64.enc) (by rfl) HBX.out.cnts ⟨wf.heap.size, 0, none⟩ 1 1 (I64.enc n) (by rfl) rfl KN.out (i64_one n) (by decide) ?c1 ?c2 hgx _ rfl ?_))
      case c1 => unfold maxLen; omega
      case c2 => omega
      intro g7 cap7 w7 hown hgr hwh hlt7
      have hwh2 : (Value.slice q.counts.a x1.counts.length q.counts.c).ownBlock = some g7 ∨ g7 = (wf.alloc (.cells #[.int .i64 n] 2)).heap.size := hwh.imp_right (fun e => e.trans (by simp))
      have hV := (HBX.out.wrote hgr (fun k hk => (own_lt HBX.out.cnts k hk).1)).2
      have e1 := hV.cell (i := 2) rfl
      have f1 := hV.free 2
      obtain ⟨hB9, hb9⟩ := HBX.out.addc hown hgr hwh2
      have hb := hbx.same (hb9.sub (w3_cnts rfl))
      have hnc := own_or hwh2 hbx.size
      obtain ⟨x2, hx2⟩ : ∃ y : Tls, y = { x1 with counts := x1.counts ++ [n] } := ⟨_, rfl⟩
      rw [← hx2] at hB9
      have HB := Lib.hid hB9
      have hgl := hB9.lt
      have hxb2 : x2.blanks = 0 := by rw [hx2]; exact hxb1
      have HX2 : Hid (x2 = t.add (p.take 1) v n) := Lib.hid (by rw [hx2]; exact HX1.out)
      clear hown hgr hwh hwh2 hlt7 hV hB9 hb9 HBX hbx hgx KN c1
      go_upto_region 14 with fail
      clear e1 f1
      generalize w7.setCell ⟨g, 2, none⟩ (.slice (some ⟨g7, 0, none⟩) (x1.counts.length + 1) cap7) = wh at *
      have c3 := HB.out.var.cell (i := 3) (v := .int .i64 x2.blanks) rfl
      rw [hxb2] at c3
      clear hx2 hxb1 HX1 hxb2
      go_wp2
      go_ret
      have hfin := HB.out
      rw [HX2.out] at hfin
      exact ⟨rfl, _, hfin, hb, ⟨hnv, hnc⟩⟩
end Go.Proofs.YtjdcdhhbgijaoaaGreatDoor
namespace Go.Proofs.YtjdcdhhbgijaoaaGreatDoor
open Go.ChangeShapes Go.WideShapes Go.ChangeAt Go.RowKit Go.Sort

/-- a tile set whose rows are there, and a second value -/
def TlPost (t : Tls) (v : Value) (w : World) (e : Ending) (w' : World) : Prop :=
  ∃ q : TlA, e = .returned (.tuple #[.agg #[.string t.letters, .slice q.values.a t.values.length q.values.c, .slice q.counts.a t.counts.length q.counts.c, .int .i64 t.blanks], v]) ∧ t.Own q w.heap.size w' ∧ offA q.values.a q.counts.a ∧ Below w.heap.size w w'
set_option maxRecDepth 100000 in
set_option maxHeartbeats 8000000 in
theorem specRead_any (t : Tls) (s : ByteArray) (w : World) (ht : t.Text s) : Calls Tryz.prog 249 #[.string s] w (TlPost t (.bool true) w) := by
  have hb0 : Below w.heap.size w (w.alloc (.cells #[.string ⟨#[]⟩, .slice none 0 0, .slice none 0 0, .int .i64 0] 44)) := (Below.refl _ _).alloc (Nat.le_refl _) _
  have V0 := Lib.hid (VarAt.new w 44 [.string ⟨#[]⟩, .slice none 0 0, .slice none 0 0, .int .i64 0])
  obtain ⟨T, t0, tS, tN⟩ := stepsO_states ht.spec
  have hlen := ht.len
  have HSP := Lib.hid (fun W => l01Split_any s 32 W (by omega))
  have hn := ht.few
  have HTX : Hid (mkB (tilesT t) = s) := Lib.hid (by rw [ht.text, mkB_of])
  have HOK := Lib.hid ht.ok
  have HTS := Lib.hid tS
  have HT0 := Lib.hid t0
  have HTN := Lib.hid tN
  have hq : (s.toList != s.toList) = false := by simp
  clear t0 tS tN ht
  generalize splitL 32 s.data.toList = P at *
  have HPL : Hid ((P.map mkB).length = P.length) := Lib.hid (List.length_map ..)
  have HCL : Hid (∀ (W : World) (B G cap : Nat), W.ownsRow B 9 1 (.slice (some ⟨G, 0, none⟩) P.length cap) P.length ((P.map mkB).flatMap Tx.enc) → ∀ k, k < P.length → W.cell? ⟨G, k, none⟩ = some (.string (mkB (P.getD k [])))) := Lib.hid (fun W B G cap ho k hk => by
    have h2 : k < (P.map mkB).length := by rw [List.length_map]; exact hk
    have ho2 : W.ownsRow B 9 1 (.slice (some ⟨G, 0, none⟩) (P.map mkB).length cap) (P.map mkB).length ((P.map mkB).flatMap Tx.enc) := by rw [List.length_map]; exact ho
    have := own_cells (enc := Tx.enc) (fun _ => rfl) ho2 rfl (i := k) h2 (j := 0) (v := .string (mkB P[k])) (by rw [List.getElem_map]; rfl)
    rw [List.getD_eq_getElem?_getD, List.getElem?_eq_getElem hk]
    simpa using this)
  go_enter Tryz.func249, Tryz.ntmps249
  go_upto_region 1 with fail
  generalize w.alloc (.cells #[.string ⟨#[]⟩, .slice none 0 0, .slice none 0 0, .int .i64 0] 44) = w1 at *
  have hx : Below w1.heap.size w1 (w1.alloc (.cells #[.string ⟨#[]⟩, .slice none 0 0, .slice none 0 0, .int .i64 0] 44)) := (Below.refl _ _).alloc (Nat.le_refl _) _
  have HB := Lib.hid (TBox.new w1)
  have hlt0 := V0.out.lt
  replace V0 := Lib.hid (V0.out.kept hx)
  replace hb0 := hb0.trans (hx.mono hb0.size)
  clear hx
  go_upto_region 2 with fail
  generalize w1.alloc (.cells #[.string ⟨#[]⟩, .slice none 0 0, .slice none 0 0, .int .i64 0] 44) = w2 at *
  generalize w1.heap.size = g at *
  go_wp2_with fail
  refine (HSP.out _).mono ?_
  rintro e w3 ⟨G, cap, rfl, ho, hd⟩
  have hG := (ho.lt G rfl).1
  have hg2 := HB.out.lt
  rw [HPL.out] at ho
  rw [HPL.out]
  have HR := Lib.hid ho
  replace HB := Lib.hid (HB.out.kept hd)
  replace V0 := Lib.hid (V0.out.kept hd)
  replace hb0 := hb0.trans (hd.mono hb0.size)
  clear hd ho HSP HPL
  have hgG : g < G := by omega
  generalize w2.heap.size = B2 at *
  obtain ⟨n, hnn⟩ : ∃ n, n = P.length := ⟨_, rfl⟩
  rw [← hnn] at hn HR HCL HTS HTN
  rw [← hnn]
  clear hnn
  have hni : ¬ (27 : Int) < (n : Int) := by omega
  go_wp2_with fail
  go_loopw [6] (fun iv wr => ∃ (k : Nat) (q : TlA), k ≤ n ∧ iv = .int .i64 k ∧ Hid (TBox wr g (T k) q) ∧ Hid (VarAt wr w.heap.size 44 [.string ⟨#[]⟩, .slice none 0 0, .slice none 0 0, .int .i64 0]) ∧ Hid (wr.ownsRow B2 9 1 (.slice (some ⟨G, 0, none⟩) n cap) n ((P.map mkB).flatMap Tx.enc)) ∧ Hid ((∀ k, q.values.a.map (·.block) = some k → G < k) ∧ ∀ k, q.counts.a.map (·.block) = some k → G < k) ∧ Below w.heap.size w wr) (fun iv _ => n - (intOf iv).toNat)
  case atStart => exact ⟨0, ⟨⟨none, 0⟩, ⟨none, 0⟩⟩, Nat.zero_le _, rfl, by rw [HT0.out]; exact HB, V0, HR, Lib.hid ⟨fun _ h => (by cases h), fun _ h => (by cases h)⟩, hb0⟩
  case round =>
    clear HB V0 HR hb0
    obtain ⟨k, q, hk, rfl, HB, V0, HR, HQ, hb0⟩ := hrel
    by_cases hlt : k < n
    · have c0 := HCL.out _ _ _ _ HR.out k hlt
      have HST := Lib.hid (HTS.out k hlt)
      have HWD : Hid (∀ W, TBox W g (T k) q → Calls Tryz.prog 277 #[.pointer (some ⟨g, 0, none⟩), .string (mkB (P.getD k []))] W fun e w' => ∃ q2, e = .returned (.bool true) ∧ TBox w' g (T (k + 1)) q2 ∧ Wrote g (W3 g q) W w' ∧ TNew W q q2) := Lib.hid (fun W h => l02Word_any (T k) (T (k + 1)) q g (mkB (P.getD k [])) W h (by rw [mkB_data]; exact HST.out))
      generalize mkB (P.getD k []) = wd at *
      go_wp2_with fail
      refine (HWD.out _ HB.out).mono ?_
      rintro e w4 ⟨q2, rfl, h1, h2, h3⟩
      have hGs := (HR.out.lt G rfl).2
      have hoff : ∀ b, b ≤ G → b ≠ g → ∀ s ∈ W3 g q, offA s (some ⟨b, 0, none⟩) := by
        intro b hbG hbg s hs j h4 h5
        obtain rfl : b = j := by simpa using h5
        unfold W3 at hs
        simp only [List.mem_cons, List.not_mem_nil, or_false] at hs
        rcases hs with rfl | rfl | rfl
        · exact hbg (by simpa using h4.symm)
        · have := HQ.out.1 _ h4; omega
        · have := HQ.out.2 _ h4; omega
      have HB4 := Lib.hid h1
      have HR4 := Lib.hid (h2.own (hoff G (Nat.le_refl _) (by omega)) HR.out)
      have V4 := Lib.hid (V0.out.wrote h2 (hoff w.heap.size (by omega) (by omega)))
      have HQ4 : Hid ((∀ k, q2.values.a.map (·.block) = some k → G < k) ∧ ∀ k, q2.counts.a.map (·.block) = some k → G < k) := Lib.hid ⟨fun j hj => (h3.vals j hj).elim (HQ.out.1 j) (fun h => by omega), fun j hj => (h3.cnts j hj).elim (HQ.out.2 j) (fun h => by omega)⟩
      have hb4 := hb0.trans (h2.below.mono (by omega))
      clear h1 h2 h3 hoff HB HR V0 HQ hb0 c0 HWD HST
      go_wp2
      go_roundw
      case rel => exact ⟨k + 1, q2, by omega, by go_num, HB4, V4, HR4, HQ4, hb4⟩
      case measure => simp [intOf]; omega
    · obtain rfl : k = n := by omega
      have HB5 := HB.out
      rw [HTN.out] at HB5
      replace HB := Lib.hid HB5
      clear HB5 HR HQ HCL HTS HT0
      go_wp2_with fail
      refine (l02Ok_any t q g _ HB.out.tat ?hfit).mono ?_
      case hfit =>
        have h := Tls.good HOK.out
        exact ⟨by have := h.hi; omega, by have := h.hi; have := h.values; omega, by have := h.hi; have := h.counts; omega⟩
      rintro e w5 ⟨rfl, hd0⟩
      rw [HOK.out]
      have hd := hd0.below wr.heap.size
      replace HB := Lib.hid (HB.out.kept hd)
      replace V0 := Lib.hid (V0.out.kept hd)
      replace hb0 := hb0.trans (hd.mono hb0.size)
      clear hd hd0
      go_wp2_with fail
      refine (l02Text_any t q g _ HB.out.tat HOK.out).mono ?_
      rintro e w6 ⟨rfl, hd⟩
      rw [HTX.out]
      replace HB := Lib.hid (HB.out.kept hd)
      replace V0 := Lib.hid (V0.out.kept hd)
      replace hb0 := hb0.trans (hd.mono hb0.size)
      clear hd
      have c0 := HB.out.var.cell (i := 0) rfl
      have c1 := HB.out.var.cell (i := 1) rfl
      have c2 := HB.out.var.cell (i := 2) rfl
      have c3 := HB.out.var.cell (i := 3) rfl
      have d0 := V0.out.cell (i := 0) rfl
      have d1 := V0.out.cell (i := 1) rfl
      have d2 := V0.out.cell (i := 2) rfl
      have d3 := V0.out.cell (i := 3) rfl
      have f0 := V0.out.free 0
      have f1 := V0.out.free 1
      have f2 := V0.out.free 2
      have f3 := V0.out.free 3
      obtain ⟨o0, k0⟩ := V0.out.set 0 (.string t.letters)
      obtain ⟨o1, k1⟩ := o0.set 1 (.slice q.values.a t.values.length q.values.c)
      obtain ⟨o2, k2⟩ := o1.set 2 (.slice q.counts.a t.counts.length q.counts.c)
      obtain ⟨o3, k3⟩ := o2.set 3 (.int .i64 t.blanks)
      have GG := grownBy_trans (grownBy_trans (grownBy_trans k0 k1) k2) k3
      have hb9 := hb0.grown GG hb0.size (fun q h => by cases h; exact Nat.le_refl _)
      have e0 := o3.cell (i := 0) (v := (.string t.letters)) rfl
      have e1 := o3.cell (i := 1) (v := (.slice q.values.a t.values.length q.values.c)) rfl
      have e2 := o3.cell (i := 2) (v := (.slice q.counts.a t.counts.length q.counts.c)) rfl
      have e3 := o3.cell (i := 3) (v := (.int .i64 t.blanks)) rfl
      have hAt := Tls.Own.mono (Tls.Own.store HB.out.own GG (by omega)) (show w.heap.size ≤ g + 1 by omega)
      clear o0 o1 o2 o3 k0 k1 k2 k3 GG
      go_wp2
      refine bodyPost_ret (v := .tuple #[.agg #[.string t.letters, .slice q.values.a t.values.length q.values.c, .slice q.counts.a t.counts.length q.counts.c, .int .i64 t.blanks], .bool true]) (by simp [results, Tryz.results249, go_sem, e0, e1, e2, e3]) rfl ?_
      exact ⟨q, rfl, hAt, HB.out.off, hb9⟩
set_option maxRecDepth 100000 in
set_option maxHeartbeats 4000000 in
theorem specTiles_any (t : Tls) (s : ByteArray) (w : World) (hs : t.Text (standX s)) : Calls Tryz.prog 195 #[.string s] w (TlPost t (.int .i64 0) w) := by
  have hb0 : Below w.heap.size w (w.alloc (.cells #[.string ⟨#[]⟩, .slice none 0 0, .slice none 0 0, .int .i64 0] 44)) := (Below.refl _ _).alloc (Nat.le_refl _) _
  have V0 := Lib.hid (VarAt.new w 44 [.string ⟨#[]⟩, .slice none 0 0, .slice none 0 0, .int .i64 0])
  have hlt0 := V0.out.lt
  have HST := Lib.hid (fun W => l02Standard_any s W)
  have HRD := Lib.hid (fun W => specRead_any t (standX s) W hs)
  clear hs
  generalize standX s = X at *
  go_enter Tryz.func195, Tryz.ntmps195
  go_upto_region 1 with fail
  generalize w.alloc (.cells #[.string ⟨#[]⟩, .slice none 0 0, .slice none 0 0, .int .i64 0] 44) = w1 at *
  go_wp2_with fail
  refine (HST.out _).mono ?_
  rintro e w2 ⟨rfl, rfl⟩
  clear HST
  go_wp2_with fail
  refine (HRD.out _).mono ?_
  rintro e w3 ⟨q, rfl, hat, hoff, hd⟩
  replace V0 := Lib.hid (V0.out.kept hd)
  replace hb0 := hb0.trans (hd.mono hb0.size)
  clear hd HRD
  have V1 := Lib.hid (VarAt.new w3 44 [.string t.letters, .slice q.values.a t.values.length q.values.c, .slice q.counts.a t.counts.length q.counts.c, .int .i64 t.blanks])
  have hx : Below w3.heap.size w3 (w3.alloc (.cells #[.string t.letters, .slice q.values.a t.values.length q.values.c, .slice q.counts.a t.counts.length q.counts.c, .int .i64 t.blanks] 44)) := (Below.refl _ _).alloc (Nat.le_refl _) _
  replace V0 := Lib.hid (V0.out.kept hx)
  replace hb0 := hb0.trans (hx.mono hb0.size)
  replace hat := Tls.Own.kept hat hx
  clear hx
  go_upto_region 2 with fail
  generalize w3.alloc (.cells #[.string t.letters, .slice q.values.a t.values.length q.values.c, .slice q.counts.a t.counts.length q.counts.c, .int .i64 t.blanks] 44) = w4 at *
  generalize w3.heap.size = B at *
  have c0 := V1.out.cell (i := 0) rfl
  have c1 := V1.out.cell (i := 1) rfl
  have c2 := V1.out.cell (i := 2) rfl
  have c3 := V1.out.cell (i := 3) rfl
  have d0 := V0.out.cell (i := 0) rfl
  have d1 := V0.out.cell (i := 1) rfl
  have d2 := V0.out.cell (i := 2) rfl
  have d3 := V0.out.cell (i := 3) rfl
  have f0 := V0.out.free 0
  have f1 := V0.out.free 1
  have f2 := V0.out.free 2
  have f3 := V0.out.free 3
  obtain ⟨o0, k0⟩ := V0.out.set 0 (.string t.letters)
  obtain ⟨o1, k1⟩ := o0.set 1 (.slice q.values.a t.values.length q.values.c)
  obtain ⟨o2, k2⟩ := o1.set 2 (.slice q.counts.a t.counts.length q.counts.c)
  obtain ⟨o3, k3⟩ := o2.set 3 (.int .i64 t.blanks)
  have GG := grownBy_trans (grownBy_trans (grownBy_trans k0 k1) k2) k3
  have hb9 := hb0.grown GG hb0.size (fun q h => by cases h; exact Nat.le_refl _)
  have e0 := o3.cell (i := 0) (v := (.string t.letters)) rfl
  have e1 := o3.cell (i := 1) (v := (.slice q.values.a t.values.length q.values.c)) rfl
  have e2 := o3.cell (i := 2) (v := (.slice q.counts.a t.counts.length q.counts.c)) rfl
  have e3 := o3.cell (i := 3) (v := (.int .i64 t.blanks)) rfl
  have hAt := Tls.Own.mono (Tls.Own.store hat GG hlt0) (Nat.le_of_lt hlt0)
  clear o0 o1 o2 o3 k0 k1 k2 k3 GG
  go_wp2
  refine bodyPost_ret (v := .tuple #[.agg #[.string t.letters, .slice q.values.a t.values.length q.values.c, .slice q.counts.a t.counts.length q.counts.c, .int .i64 t.blanks], .int .i64 0]) (by simp [results, Tryz.results195, go_sem, e0, e1, e2, e3]) rfl ?_
  exact ⟨q, rfl, hAt, hoff, hb9⟩
end Go.Proofs.YtjdcdhhbgijaoaaGreatDoor
