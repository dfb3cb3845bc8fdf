/- Contract: the program's words that a play forms. For valid plays on valid boards. -/
import Derived.Test.YtjdcdhhbgijaoaaGreatDoorPlbF
namespace Go.Proofs.YtjdcdhhbgijaoaaGreatDoor
open Go.ChangeShapes Go.WideShapes Go.ChangeAt Go.RowKit Go.Sort

theorem PGood.cross_to {b : Brd} {p : Ply} {n : Nat} (h : PGood b p n) (is : List Nat) (hlt : ∀ i ∈ is, i < p.word.size) : acrossL (b.view p) p.r p.c p.word.data.toList is = (crossTo b p is).map fun i => lettersOf (b.made p) (crossS b p i) := by
  unfold acrossL crossTo
  induction is with
  | nil => rfl
  | cons i is ih =>
    have ih2 := ih (fun j hj => hlt j (List.mem_cons_of_mem _ hj))
    have hl := h.cross_len i (p.word.data.toList.getD i 0)
    simp only [List.map_cons, List.filter_cons]
    by_cases c : 2 ≤ (crossS b p i).length
    · rw [if_pos (decide_eq_true (by omega)), if_pos (decide_eq_true c), List.map_cons, h.cross_letters (hlt i (List.mem_cons_self)), ih2]
    · rw [if_neg (by rw [decide_eq_true_eq]; omega), if_neg (by rw [decide_eq_true_eq]; exact c), ih2]
theorem PGood.words_cross {b : Brd} {p : Ply} {n : Nat} (h : PGood b p n) : b.words p = (p.word.data.toList :: (crossTo b p (b.fresh p)).map fun i => lettersOf (b.made p) (crossS b p i)).map fun l => mkB (lowL l) := by
  unfold Brd.words Brd.formed
  rw [h.cross_to (b.fresh p) (fun i hi => (freshL_lt hi).1)]

theorem seqL_full {b : Brd} {d : Bool} {r c : Int} (hm : fullC (b.cell r c) = true) : ∀ s ∈ seqL b d r c, fullC (b.cell s.1 s.2) = true := by
  intro s hs
  obtain ⟨j, hj, rfl⟩ := List.mem_map.1 hs
  rw [List.mem_range] at hj
  show fullC (lineF b d r c ((j : Int) - seqU b d r c) 0) = true
  by_cases c1 : j < seqU b d r c
  · have := seq_lo (b := b) (d := d) (r := r) (c := c) (j := seqU b d r c - 1 - j) (by omega)
    rwa [show (-1 - ((seqU b d r c - 1 - j : Nat) : Int)) = (j : Int) - seqU b d r c from by omega] at this
  · by_cases c2 : j = seqU b d r c
    · rw [c2, Int.sub_self]; exact line_mid hm
    · have := seq_hi (b := b) (d := d) (r := r) (c := c) (j := j - seqU b d r c - 1) (by omega)
      rwa [show 1 + ((j - seqU b d r c - 1 : Nat) : Int) = (j : Int) - seqU b d r c from by omega] at this
theorem PGood.letters_ascii {b : Brd} {p : Ply} {n : Nat} (h : PGood b p n) {i : Nat} (hi : i < p.word.size) : ∀ x ∈ lettersOf (b.made p) (crossS b p i), x.toNat < 128 := by
  intro x hx
  unfold lettersOf at hx
  obtain ⟨s, hs, rfl⟩ := List.mem_map.1 hx
  exact let_ascii (h.made_good.full_let (seqL_full (h.made_full hi).1 s hs))
theorem PGood.cross_le {b : Brd} {p : Ply} {n : Nat} (h : PGood b p n) {i : Nat} (hi : i < p.word.size) : (crossS b p i).length ≤ 31 := by
  unfold crossS
  rw [seqL_len]
  have h1 := seqU_le h.made_good (d := !p.down) (h.made_full hi).2
  have h2 := seqD_le h.made_good (d := !p.down) (h.made_full hi).2
  omega
theorem lettersOf_take (b : Brd) (l : List (Int × Int)) {j : Nat} (h : j < l.length) : (lettersOf b l).take (j + 1) = (lettersOf b l).take j ++ [b.cell l[j].1 l[j].2] := by
  unfold lettersOf
  rw [List.take_succ_eq_append_getElem (by simpa using h), List.getElem_map]
theorem take_words {α β : Type} (x : β) (f : α → β) (l : List α) {k : Nat} (h : k < l.length) : (x :: l.map f).take (k + 1 + 1) = (x :: l.map f).take (k + 1) ++ [f l[k]] := by
  rw [List.take_succ_eq_append_getElem (by simpa using h), List.getElem_cons_succ, List.getElem_map]
theorem ascii_word {b : Brd} {p : Ply} {n : Nat} (h : PGood b p n) : ∀ x ∈ p.word.data.toList, x.toNat < 128 := fun x hx => by
  have := List.all_eq_true.1 h.letters x hx
  exact let_ascii this
theorem row_ent {w : World} {base g cap n : Nat} {sq : Nat → List (Int × Int)} {es : List Ent} (h : w.ownsRow base 65 1 (.slice (some ⟨g, 0, none⟩) n cap) n (es.flatMap (Ent.enc sq))) {k : Nat} (hk : k < es.length) : w.cell? ⟨g, k, none⟩ = some (.slice (some ⟨es[k].g, 0, none⟩) (sq es[k].i).length es[k].cap) := by
  have h1 := own_news0 h k (.slice (some ⟨es[k].g, 0, none⟩) (sq es[k].i).length es[k].cap) (by
    have := flatMap_get (enc := Ent.enc sq) (sz := 1) (Ent.enc_len sq) es hk (j := 0) (by omega)
    rw [Nat.mul_one, Nat.add_zero] at this
    rw [this]
    rfl)
  rwa [Go.Addr.add_lit, Nat.zero_add] at h1
set_option maxRecDepth 100000 in
set_option maxHeartbeats 8000000 in
theorem wordsFormed_any (b : Brd) (p : Ply) (n : Nat) (w : World) (hp : PGood b p n) :
    Calls Tryz.prog 83 #[.agg #[.int .i64 b.size, .string b.premium, .string b.cells], .agg #[.int .i64 p.row, .int .i64 p.col, .bool p.down, .string p.word]] w (TextsPost w (b.words p)) := by
  obtain ⟨i0, hi0, hi1, hi2, hi3⟩ := info_parts infoByte
  obtain ⟨j0, hj0, hj1, hj2, hj3⟩ := info_parts infoTx
  have hs12 := hp.twelve
  have HMD : Hid (∀ W, Calls Tryz.prog 84 #[.agg #[.int .i64 b.size, .string b.premium, .string b.cells], .agg #[.int .i64 p.row, .int .i64 p.col, .bool p.down, .string p.word]] W fun e w' => e = .returned (.agg #[.int .i64 (b.made p).size, .string (b.made p).premium, .string (b.made p).cells]) ∧ Below W.heap.size W w') := Lib.hid (fun W => made_any b p n W hp)
  have HCR : Hid (∀ W, Calls Tryz.prog 176 #[.agg #[.int .i64 b.size, .string b.premium, .string b.cells], .agg #[.int .i64 p.row, .int .i64 p.col, .bool p.down, .string p.word]] W (CrossPost (crossS b p) (sqOf p) (crossTo b p (b.fresh p)) W)) := Lib.hid (fun W => crossings_any b p n W hp)
  have HCE : Hid (∀ r c W, Calls Tryz.prog 129 #[.agg #[.int .i64 (b.made p).size, .string (b.made p).premium, .string (b.made p).cells], .int .i64 r, .int .i64 c] W fun e w' => e = .returned (.int .u8 (((b.made p).cell r c).toNat : Int)) ∧ Below W.heap.size W w') := Lib.hid (fun r c W => cell_any (b.made p) n r c W hp.made_good)
  have HIS : Hid (∀ i ∈ crossTo b p (b.fresh p), i < p.word.size) := Lib.hid (fun i h => (freshL_lt (List.mem_filter.1 h).1).1)
  have HLE : Hid (∀ i, i < p.word.size → (crossS b p i).length ≤ 31) := Lib.hid (fun i h => hp.cross_le h)
  obtain ⟨sm, hsm⟩ : ∃ sm : List UInt8 → ByteArray, ∀ l, sm l = mkB (lowL l) := ⟨_, fun _ => rfl⟩
  have HLW : Hid (∀ l : List UInt8, l.length ≤ 40 → (∀ x ∈ l, x.toNat < 128) → ∀ W, Calls Tryz.prog 132 #[.string (mkB l)] W fun e w' => e = .returned (.string (sm l)) ∧ Below W.heap.size W w') := Lib.hid (fun l h1 h2 W => by
    have := lower_ascii (mkB l) W (by rw [mkB_size]; omega) (by rw [mkB_data]; exact h2)
    rw [mkB_data] at this
    rw [hsm]
    exact this)
  have HL0 : Hid (∀ W, Calls Tryz.prog 132 #[.string p.word] W fun e w' => e = .returned (.string (sm p.word.data.toList)) ∧ Below W.heap.size W w') := Lib.hid (fun W => by rw [hsm]; exact lower_ascii p.word W (by omega) (ascii_word hp))
  have HAS : Hid (∀ i, i < p.word.size → ∀ x ∈ lettersOf (b.made p) (crossS b p i), x.toNat < 128) := Lib.hid (fun i h => hp.letters_ascii h)
  have HWL : Hid (b.words p = sm p.word.data.toList :: (crossTo b p (b.fresh p)).map fun i => sm (lettersOf (b.made p) (crossS b p i))) := Lib.hid (by
    rw [hp.words_cross, List.map_cons, List.map_map, ← hsm]
    congr 1
    refine List.map_congr_left fun i _ => ?_
    rw [hsm]; rfl)
  have hcl : (crossTo b p (b.fresh p)).length ≤ 12 := by
    have h1 : (crossTo b p (b.fresh p)).length ≤ (b.fresh p).length := List.length_filter_le _ _
    have h2 : (b.fresh p).length ≤ p.word.size := freshL_len _ _ _ _
    omega
  obtain ⟨r, c, d, s⟩ := p
  simp only at HIS HLE HL0 HAS HWL HMD HCR hs12
  rw [HWL.out]
  clear HWL hsm hp
  obtain ⟨w2, hw2⟩ : ∃ w2, w2 = (w.alloc (.cells #[.int .i64 b.size, .string b.premium, .string b.cells] 25)).alloc (.cells #[.int .i64 r, .int .i64 c, .bool d, .string s] 30) := ⟨_, rfl⟩
  have hb : Below w.heap.size w w2 := by rw [hw2]; exact ((Below.refl _ _).alloc (Nat.le_refl _) _).alloc (by simp) _
  have VB : Hid (VarAt w2 w.heap.size 25 [.int .i64 b.size, .string b.premium, .string b.cells]) := by
    rw [hw2]
    exact Lib.hid ((VarAt.new w 25 [.int .i64 b.size, .string b.premium, .string b.cells]).kept ((Below.refl _ _).alloc (Nat.le_refl _) _))
  have VP : Hid (VarAt w2 (w.heap.size + 1) 30 [.int .i64 r, .int .i64 c, .bool d, .string s]) := by
    rw [hw2]
    have := VarAt.new (w.alloc (.cells #[.int .i64 b.size, .string b.premium, .string b.cells] 25)) 30 [.int .i64 r, .int .i64 c, .bool d, .string s]
    simp only [World.size_alloc] at this
    exact Lib.hid this
  have HW2 := Lib.hid hw2
  clear hw2
  generalize b.made ⟨r, c, d, s⟩ = af at *
  generalize crossTo b ⟨r, c, d, s⟩ (b.fresh ⟨r, c, d, s⟩) = is at *
  generalize crossS b ⟨r, c, d, s⟩ = sq at *
  generalize sqOf ⟨r, c, d, s⟩ = sqr at *
  generalize hW0 : sm s.data.toList = W0 at *
  clear hW0
  obtain ⟨WL, hWL⟩ : ∃ WL, WL = W0 :: is.map fun i => sm (lettersOf af (sq i)) := ⟨_, rfl⟩
  rw [← hWL]
  have HW1 : Hid ((WL.take 1).flatMap Tx.enc = [.string W0]) := Lib.hid (by rw [hWL]; rfl)
  have HWL := Lib.hid hWL
  clear hWL
  go_enter Tryz.func83, Tryz.ntmps83
  go_upto_region 1 with fail
  rw [← HW2.out]
  clear HW2
  have b0 := VB.out.cell (i := 0) rfl
  have b1 := VB.out.cell (i := 1) rfl
  have b2 := VB.out.cell (i := 2) rfl
  have p0 := VP.out.cell (i := 0) rfl
  have p1 := VP.out.cell (i := 1) rfl
  have p2 := VP.out.cell (i := 2) rfl
  have p3 := VP.out.cell (i := 3) rfl
  go_wp2_with fail
  refine (HMD.out _).mono ?_
  rintro e w3 ⟨rfl, hd⟩
  have hz3 := VP.out.lt
  have hz3' := hd.size
  replace hb := hb.trans (hd.mono hb.size)
  replace b0 := cell_kept b0 hd
  replace b1 := cell_kept b1 hd
  replace b2 := cell_kept b2 hd
  replace p0 := cell_kept p0 hd
  replace p1 := cell_kept p1 hd
  replace p2 := cell_kept p2 hd
  replace p3 := cell_kept p3 hd
  replace VB := Lib.hid (VB.out.kept hd)
  replace VP := Lib.hid (VP.out.kept hd)
  clear hd
  have VA := Lib.hid (VarAt.new w3 25 [.int .i64 af.size, .string af.premium, .string af.cells])
  have hd : Below w3.heap.size w3 (w3.alloc (.cells #[.int .i64 af.size, .string af.premium, .string af.cells] 25)) := (Below.refl _ _).alloc (Nat.le_refl _) _
  replace hb := hb.trans (hd.mono hb.size)
  replace b0 := cell_kept b0 hd
  replace b1 := cell_kept b1 hd
  replace b2 := cell_kept b2 hd
  replace p0 := cell_kept p0 hd
  replace p1 := cell_kept p1 hd
  replace p2 := cell_kept p2 hd
  replace p3 := cell_kept p3 hd
  replace VB := Lib.hid (VB.out.kept hd)
  replace VP := Lib.hid (VP.out.kept hd)
  clear hd
  have hza := VA.out.lt
  go_wp2_with fail
  refine (HL0.out _).mono ?_
  rintro e w4 ⟨rfl, hd⟩
  replace hb := hb.trans (hd.mono hb.size)
  replace b0 := cell_kept b0 hd
  replace b1 := cell_kept b1 hd
  replace b2 := cell_kept b2 hd
  replace p0 := cell_kept p0 hd
  replace p1 := cell_kept p1 hd
  replace p2 := cell_kept p2 hd
  replace p3 := cell_kept p3 hd
  replace VB := Lib.hid (VB.out.kept hd)
  replace VP := Lib.hid (VP.out.kept hd)
  replace VA := Lib.hid (VA.out.kept hd)
  clear hd
  have hza4 := VA.out.lt
  have HO : Hid ((w4.alloc (.cells #[.string W0] 9)).ownsRow (w3.heap.size + 1) 9 1 (.slice (some ⟨w4.heap.size, 0, none⟩) 1 1) 1 ((WL.take 1).flatMap Tx.enc)) := Lib.hid (by rw [HW1.out]; exact own_new_tx w4 W0 9 (w3.heap.size + 1) (by omega))
  have hd : Below w4.heap.size w4 (w4.alloc (.cells #[.string W0] 9)) := (Below.refl _ _).alloc (Nat.le_refl _) _
  replace hb := hb.trans (hd.mono hb.size)
  replace b0 := cell_kept b0 hd
  replace b1 := cell_kept b1 hd
  replace b2 := cell_kept b2 hd
  replace p0 := cell_kept p0 hd
  replace p1 := cell_kept p1 hd
  replace p2 := cell_kept p2 hd
  replace p3 := cell_kept p3 hd
  replace VB := Lib.hid (VB.out.kept hd)
  replace VP := Lib.hid (VP.out.kept hd)
  replace VA := Lib.hid (VA.out.kept hd)
  clear hd
  have hzo := (HO.out.lt _ rfl).2
  go_wp2_with fail
  refine (HCR.out _).mono ?_
  rintro e w5 ⟨es, gx, cx, g2, c2, hes, rfl, _, hrow, hents, hd⟩
  clear b0 b1 b2 p0 p1 p2 p3 VB VP
  replace hb := hb.trans (hd.mono hb.size)
  replace HO := Lib.hid (own_below HO.out hd)
  replace VA := Lib.hid (VA.out.kept hd)
  clear hd
  have hw45 : w4.heap.size + 1 ≤ (w4.alloc (.cells #[.string W0] 9)).heap.size := by simp
  have hg20 := (hrow.lt g2 rfl).1
  have HEG : Hid (∀ e ∈ es, e.g ≠ w4.heap.size) := Lib.hid (fun e he => by
    have h1 := ((hents e he).lt e.g rfl).1
    omega)
  have HW := Lib.hid (own_mono hrow (show w3.heap.size + 1 ≤ _ by omega))
  have HS := Lib.hid (hents.mono (show w3.heap.size + 1 ≤ _ by omega))
  have HEI : Hid (∀ e ∈ es, e.i < s.size) := Lib.hid (fun e he => HIS.out _ (by rw [← hes]; exact List.mem_map_of_mem he))
  have HML : Hid (is.map (fun i => sm (lettersOf af (sq i))) = es.map fun e => sm (lettersOf af (sq e.i))) := Lib.hid (by rw [← hes, List.map_map]; rfl)
  have hel : es.length ≤ 12 := by rw [← hes, List.length_map] at hcl; exact hcl
  have HLEN : Hid (WL.length = es.length + 1) := Lib.hid (by rw [HWL.out, HML.out, List.length_cons, List.length_map])
  have HTW : Hid (∀ k e, es[k]? = some e → WL.take (k + 1 + 1) = WL.take (k + 1) ++ [sm (lettersOf af (sq e.i))]) := Lib.hid (fun k e h => by
    obtain ⟨h1, rfl⟩ := List.getElem?_eq_some_iff.1 h
    rw [HWL.out, HML.out]; exact take_words W0 (fun e : Ent => sm (lettersOf af (sq e.i))) es h1)
  clear hrow hents hes HML HIS hcl HWL HW1
  have hg24 : g2 ≠ w4.heap.size := by omega
  generalize w4.heap.size = g1 at *
  generalize hm : es.length = m at *
  have HM := Lib.hid hm
  clear hm
  have hwz : w.heap.size ≤ w3.heap.size + 1 := by omega
  clear hw45 hg20 hzo hza4 hza hz3 hz3'
  go_wp2_with fail
  go_loopw [6, 29] (fun ov iv wr => ∃ (k g1 c1 : Nat), k ≤ m ∧ iv = .int .i64 k ∧ ov = .slice (some ⟨g1, 0, none⟩) (k + 1) c1 ∧ g2 ≠ g1 ∧ Hid (∀ e ∈ es, e.g ≠ g1) ∧ Hid (wr.ownsRow (w3.heap.size + 1) 9 1 (.slice (some ⟨g1, 0, none⟩) (k + 1) c1) (k + 1) ((WL.take (k + 1)).flatMap Tx.enc)) ∧ Hid (wr.ownsRow (w3.heap.size + 1) 65 1 (.slice (some ⟨g2, 0, none⟩) m c2) m (es.flatMap (Ent.enc sq))) ∧ Hid (EntsAt wr (w3.heap.size + 1) sq es) ∧ Hid (VarAt wr w3.heap.size 25 [.int .i64 af.size, .string af.premium, .string af.cells]) ∧ Below w.heap.size w wr) (fun _ iv _ => m - (intOf iv).toNat)
  case atStart => exact ⟨0, _, 1, Nat.zero_le _, rfl, rfl, hg24, HEG, HO, HW, HS, VA, hb⟩
  case round =>
    clear HO HW HS VA hb hg24 HEG
    obtain ⟨k, g1, c1, hk, rfl, rfl, h12, HEG, HO, HW, HS, VA, hb⟩ := hrel
    by_cases hkm : k < m
    · have hke : k < es.length := by rw [HM.out]; exact hkm
      have HTK := Lib.hid (HTW.out k _ (List.getElem?_eq_getElem hke))
      have x0 := row_ent HW.out hke
      have HQ := Lib.hid (HS.out _ (List.getElem_mem hke))
      have hne1 := HEG.out _ (List.getElem_mem hke)
      have hi12 := HEI.out _ (List.getElem_mem hke)
      have hq31 := HLE.out _ hi12
      have HASC := Lib.hid (HAS.out _ hi12)
      have hgq := HS.out.lt _ (List.getElem_mem hke)
      generalize es[k] = en at *
      obtain ⟨i, gq, cq⟩ := en
      simp only at x0 HQ hne1 hi12 hq31 HASC hgq HTK
      generalize sq i = qs at *
      have HQL : Hid (qs.length = (lettersOf af qs).length) := Lib.hid (by simp [lettersOf])
      have HLT2 : Hid (∀ j sj, qs[j]? = some sj → (lettersOf af qs).take (j + 1) = (lettersOf af qs).take j ++ [af.cell sj.1 sj.2]) := Lib.hid (fun j sj h => by
        obtain ⟨h1, rfl⟩ := List.getElem?_eq_some_iff.1 h
        exact lettersOf_take af qs h1)
      have HT0 : Hid (((lettersOf af qs).take 0).flatMap U8.enc = []) := Lib.hid rfl
      have HTF : Hid ((lettersOf af qs).take qs.length = lettersOf af qs) := Lib.hid (List.take_of_length_le (by simp [lettersOf]))
      have hl31 : (lettersOf af qs).length ≤ 40 := by have := HQL.out; omega
      have HL1 := Lib.hid (HLW.out _ hl31 HASC.out)
      generalize lettersOf af qs = ls at *
      have hg1l := (HO.out.lt g1 rfl).2
      have hg2l := (HW.out.lt g2 rfl).2
      have hz3 := VA.out.lt
      have HEL := Lib.hid HS.out.lt
      have HB : Hid ((wr.alloc (.cells #[] 5)).ownsRow wr.heap.size 5 1 (.slice (some ⟨wr.heap.size, 0, none⟩) 0 0) 0 ((ls.take 0).flatMap U8.enc)) := Lib.hid (by
        rw [HT0.out]
        exact World.ownsRow_made (base := wr.heap.size) (e := 5) (size := 1) wr #[] 0 (Nat.le_refl _) (by unfold maxLen; omega) rfl)
      have hd : Below wr.heap.size wr (wr.alloc (.cells #[] 5)) := (Below.refl _ _).alloc (Nat.le_refl _) _
      replace HQ := Lib.hid (own_below HQ.out hd)
      replace HO := Lib.hid (own_below HO.out hd)
      replace HW := Lib.hid (own_below HW.out hd)
      replace HS := Lib.hid (HS.out.kept hd)
      replace VA := Lib.hid (VA.out.kept hd)
      replace hb := hb.trans (hd.mono hb.size)
      clear hd
      obtain ⟨bs, hbs⟩ : ∃ bs, bs = wr.heap.size := ⟨_, rfl⟩
      go_upto_region 8 with fail
      rw [← hbs] at HB hg1l hg2l hz3 HEL hgq
      rw [← hbs]
      generalize hwn : wr.alloc (.cells #[] 5) = wn at *
      clear hwn x0
      generalize hq : qs.length = q at *
      have HQN := Lib.hid hq
      clear hq
      clear hbs
      go_wp2_with fail
      go_loopw [11, 36] (fun ov iv wv => ∃ (j g3 c3 : Nat), j ≤ q ∧ iv = .int .i64 j ∧ ov = .slice (some ⟨g3, 0, none⟩) j c3 ∧ Hid (wv.ownsRow bs 5 1 (.slice (some ⟨g3, 0, none⟩) j c3) j ((ls.take j).flatMap U8.enc)) ∧ Hid (wv.ownsRow (w3.heap.size + 1) 73 2 (.slice (some ⟨gq, 0, none⟩) q cq) q (qs.flatMap Sq.enc)) ∧ Hid (wv.ownsRow (w3.heap.size + 1) 9 1 (.slice (some ⟨g1, 0, none⟩) (k + 1) c1) (k + 1) ((WL.take (k + 1)).flatMap Tx.enc)) ∧ Hid (wv.ownsRow (w3.heap.size + 1) 65 1 (.slice (some ⟨g2, 0, none⟩) m c2) m (es.flatMap (Ent.enc sq))) ∧ Hid (EntsAt wv (w3.heap.size + 1) sq es) ∧ Hid (VarAt wv w3.heap.size 25 [.int .i64 af.size, .string af.premium, .string af.cells]) ∧ Below w.heap.size w wv) (fun _ iv _ => q - (intOf iv).toNat)
      case atStart => exact ⟨0, _, 0, Nat.zero_le _, rfl, rfl, HB, HQ, HO, HW, HS, VA, hb⟩
      case round =>
        clear HB HQ HO HW HS VA hb
        obtain ⟨j, g3, c3, hj, rfl, rfl, HB, HQ, HO, HW, HS, VA, hb⟩ := hrel
        by_cases hjq : j < q
        · have hjl : j < qs.length := by rw [HQN.out]; exact hjq
          have HLT3 := Lib.hid (HLT2.out j _ (List.getElem?_eq_getElem hjl))
          obtain ⟨x0, x1⟩ := row_sq HQ.out hjl
          have HCE2 := Lib.hid (fun W => HCE.out qs[j].1 qs[j].2 W)
          generalize qs[j] = sj at *
          obtain ⟨sr, sc⟩ := sj
          simp only at x0 x1 HLT3 HCE2
          go_upto_region 11 with fail
          clear x0 x1
          have VS := Lib.hid (VarAt.new wr 73 [.int .i64 sr, .int .i64 sc])
          have hd : Below wr.heap.size wr (wr.alloc (.cells #[.int .i64 sr, .int .i64 sc] 73)) := (Below.refl _ _).alloc (Nat.le_refl _) _
          replace HB := Lib.hid (own_below HB.out hd)
          replace HQ := Lib.hid (own_below HQ.out hd)
          replace HO := Lib.hid (own_below HO.out hd)
          replace HW := Lib.hid (own_below HW.out hd)
          replace HS := Lib.hid (HS.out.kept hd)
          replace VA := Lib.hid (VA.out.kept hd)
          replace hb := hb.trans (hd.mono hb.size)
          clear hd
          have a0 := VA.out.cell (i := 0) rfl
          have a1 := VA.out.cell (i := 1) rfl
          have a2 := VA.out.cell (i := 2) rfl
          have s0 := VS.out.cell (i := 0) rfl
          have s1 := VS.out.cell (i := 1) rfl
          go_wp2_with fail
          clear a0 a1 a2 s0 s1 VS
          refine (HCE2.out _).mono ?_
          rintro e wc ⟨rfl, hd⟩
          replace HB := Lib.hid (own_below HB.out hd)
          replace HQ := Lib.hid (own_below HQ.out hd)
          replace HO := Lib.hid (own_below HO.out hd)
          replace HW := Lib.hid (own_below HW.out hd)
          replace HS := Lib.hid (HS.out.kept hd)
          replace VA := Lib.hid (VA.out.kept hd)
          replace hb := hb.trans (hd.mono hb.size)
          clear hd
          generalize af.cell sr sc = x at *
          have KN := Lib.hid (new_byte wc x 5)
          have hd : Below wc.heap.size wc (wc.alloc (.cells #[.int .u8 (x.toNat : Int)] 5)) := (Below.refl _ _).alloc (Nat.le_refl _) _
          replace HB := Lib.hid (own_below HB.out hd)
          replace HQ := Lib.hid (own_below HQ.out hd)
          replace HO := Lib.hid (own_below HO.out hd)
          replace HW := Lib.hid (own_below HW.out hd)
          replace HS := Lib.hid (HS.out.kept hd)
          replace VA := Lib.hid (VA.out.kept hd)
          replace hb := hb.trans (hd.mono hb.size)
          clear hd
          go_wp2_with (at_builtin; go_must (refine wpList_append_lies _ rfl (.tmp 40) (.tmp 47) 22 rfl bs 5 i0 _ 1 1 Tryz.underlying22 hi0 hi1 hi2 hi3 rfl (by decide) _ j ((ls.take j).flatMap U8.enc) (by rfl) HB.out ⟨wc.heap.size, 0, none⟩ 1 1 (U8.enc x) (by rfl) rfl KN.out (u8_one1 x) (by decide) ?c1 ?c2 ?c3 _ rfl ?_))
          case c1 => unfold maxLen; omega
          case c2 => omega
          case c3 => have := (HB.out.lt g3 rfl).1; have := (HB.out.lt g3 rfl).2; (first | omega | (simp only [World.size_alloc] at *; omega))
          intro g7 cap7 w7 hown hgr hwh hlt7
          have hb7 := hb.grown hgr hb.size (fun q e => by have := (HB.out.lt q e).1; have := VA.out.lt; omega)
          have HB7 : Hid (w7.ownsRow bs 5 1 (.slice (some ⟨g7, 0, none⟩) (j + 1) cap7) (j + 1) ((ls.take (j + 1)).flatMap U8.enc)) := Lib.hid (by rw [HLT3.out, snoc_flat U8.enc]; exact hown)
          have hg3 := (HB.out.lt g3 rfl).1
          have HQ7 := Lib.hid (HQ.out.kept hgr (.inr (by simp [Value.ownBlock]; omega)))
          have HO7 := Lib.hid (HO.out.kept hgr (.inr (by simp [Value.ownBlock]; omega)))
          have HW7 := Lib.hid (HW.out.kept hgr (.inr (by simp [Value.ownBlock]; omega)))
          have HS7 := Lib.hid (HS.out.grown (g := g3) hgr (fun e he => by have := HEL.out e he; omega))
          have VA7 := Lib.hid (VA.out.grown hgr (own_ne HB.out (by omega)))
          clear hown hgr hwh KN HB HQ HO HW HS VA hb HLT3 HCE2
          go_wp2
          go_roundw
          case rel => exact ⟨j + 1, g7, cap7, by omega, by go_num, by go_num, HB7, HQ7, HO7, HW7, HS7, VA7, hb7⟩
          case measure => simp [intOf]; omega
        · obtain rfl : j = q := by omega
          have hB := HB.out
          rw [HTF.out] at hB
          have hcv := own_bytes hB (by rw [HQL.out])
          go_wp2_with fail
          refine (HL1.out _).mono ?_
          rintro e wc ⟨rfl, hd⟩
          have hwc : bs ≤ wc.heap.size := by have := (HB.out.lt g3 rfl).1; have := (HB.out.lt g3 rfl).2; have := hd.size; omega
          replace HO := Lib.hid (own_below HO.out hd)
          replace HW := Lib.hid (own_below HW.out hd)
          replace HS := Lib.hid (HS.out.kept hd)
          replace VA := Lib.hid (VA.out.kept hd)
          replace hb := hb.trans (hd.mono hb.size)
          clear hd
          generalize sm ls = t at *
          have KN := Lib.hid (new_tx wc t 9)
          have hd : Below wc.heap.size wc (wc.alloc (.cells #[.string t] 9)) := (Below.refl _ _).alloc (Nat.le_refl _) _
          replace HO := Lib.hid (own_below HO.out hd)
          replace HW := Lib.hid (own_below HW.out hd)
          replace HS := Lib.hid (HS.out.kept hd)
          replace VA := Lib.hid (VA.out.kept hd)
          replace hb := hb.trans (hd.mono hb.size)
          clear hd
          go_wp2_with (at_builtin; go_must (refine wpList_append_lies _ rfl (.tmp 50) (.tmp 54) 26 rfl (w3.heap.size + 1) 9 j0 _ 1 16 Tryz.underlying26 hj0 hj1 hj2 hj3 rfl (by decide) _ (k + 1) ((WL.take (k + 1)).flatMap Tx.enc) (by rfl) HO.out ⟨wc.heap.size, 0, none⟩ 1 1 (Tx.enc t) (by rfl) rfl KN.out (tx_one t) (by decide) ?c4 ?c5 ?c6 _ rfl ?_))
          case c4 => unfold maxLen; omega
          case c5 => omega
          case c6 => (first | omega | (simp only [World.size_alloc] at *; omega))
          intro g9 cap9 w9 hown hgr hwh hlt9
          have hb9 := hb.grown hgr hb.size (fun q e => by have := (HO.out.lt q e).1; omega)
          have hn9 : g2 ≠ g9 := by
            rcases hwh with h | h
            · simp [Value.ownBlock] at h; omega
            · (first | omega | (simp only [World.size_alloc] at h; omega))
          have HEG9 : Hid (∀ e ∈ es, e.g ≠ g9) := Lib.hid (fun e he => by
            have h1 := HEG.out e he
            have h3 := HEL.out e he
            rcases hwh with h | h
            · simp [Value.ownBlock] at h; omega
            · (first | omega | (simp only [World.size_alloc] at h; omega)))
          have HO9 : Hid (w9.ownsRow (w3.heap.size + 1) 9 1 (.slice (some ⟨g9, 0, none⟩) (k + 1 + 1) cap9) (k + 1 + 1) ((WL.take (k + 1 + 1)).flatMap Tx.enc)) := Lib.hid (by rw [HTK.out, snoc_flat Tx.enc]; exact hown)
          have HW9 := Lib.hid (HW.out.kept hgr (.inr (by simp [Value.ownBlock]; omega)))
          have HS9 := Lib.hid (HS.out.grown (g := g1) hgr (fun e he => HEG.out e he))
          have VA9 := Lib.hid (VA.out.grown hgr (own_ne HO.out (by omega)))
          clear hown hgr hwh KN HB HQ HO HW HS VA hb hcv HEG HEL hB
          go_wp2
          go_roundw
          case rel => exact ⟨k + 1, g9, cap9, by omega, by go_num, by go_num, hn9, HEG9, HO9, HW9, HS9, VA9, hb9⟩
          case measure => simp [intOf]; omega
    · obtain rfl : k = m := by omega
      have hO := HO.out
      rw [List.take_of_length_le (by rw [HLEN.out]; exact Nat.le_refl _)] at hO
      have hO2 := own_mono hO hwz
      have HO2 := Lib.hid hO2
      clear hO hO2 HO HTW
      have HLE2 := Lib.hid HLEN.out.symm
      clear HLEN
      go_wp2
      go_ret
      exact ⟨g1, c1, by rw [← HLE2.out]; rfl, by rw [← HLE2.out]; exact HO2.out, hb⟩
end Go.Proofs.YtjdcdhhbgijaoaaGreatDoor
