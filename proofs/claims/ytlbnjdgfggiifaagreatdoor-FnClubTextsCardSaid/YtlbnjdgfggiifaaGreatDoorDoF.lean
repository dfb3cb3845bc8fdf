/- Contract: the program's result of a text. Leans on Go's tables and on strconv's two errors as they are laid. For every text of at most 2^20 bytes. -/
import Derived.Test.YtlbnjdgfggiifaaGreatDoorDoE
import Derived.Test.YtlbnjdgfggiifaaGreatDoorDoD
namespace Go.Proofs.YtlbnjdgfggiifaaGreatDoor
open Go.ChangeShapes Go.WideShapes Go.ChangeAt Go.RowKit Go.Sort

theorem readRes_no {l : List UInt8} {r : Res} (h : implRes l = r) (hok : ¬ resOk r = true) : readRes l = none := by
  unfold readRes; rw [h]; exact if_neg (fun hh => hok hh.1)
theorem readRes_no' {l : List UInt8} {r : Res} (h : implRes l = r) (ht : ¬ resultL r = l) : readRes l = none := by
  unfold readRes; rw [h]; exact if_neg (fun hh => ht hh.2)
theorem readRes_yes {l : List UInt8} {r : Res} (h : implRes l = r) (hok : resOk r = true) (ht : resultL r = l) : readRes l = some r := by
  unfold readRes; rw [h]; exact if_pos ⟨hok, ht⟩
theorem implRes_four {l a x b y : List UInt8} (h : splitL 32 l = [a, x, b, y]) : implRes l = ⟨mkB a, mkB b, (readDec x).getD 0, (readDec y).getD 0⟩ := by
  unfold implRes; rw [h]
theorem implRes_other {l a : List UInt8} {P : List (List UInt8)} (h : splitL 32 l = a :: P) (h4 : (a :: P).length ≠ 4) : implRes l = ⟨mkB a, ⟨#[]⟩, 0, 0⟩ := by
  unfold implRes
  split
  · rename_i h2; rw [h] at h2; rw [h2] at h4; simp at h4
  · rename_i h2; rw [h] at h2; injection h2 with h2 _; rw [h2]
  · rename_i h2; rw [h] at h2; cases h2
theorem own_new_texts (w : World) (xs : List ByteArray) (t : TypeId) (hl : xs.length ≤ 1099511627776) : (w.alloc (.cells (xs.map Value.string).toArray t)).ownsRow w.heap.size t 1 (.slice (some ⟨w.heap.size, 0, none⟩) xs.length xs.length) xs.length (xs.flatMap Tx.enc) := by
  have e : xs.flatMap Tx.enc = xs.map Value.string := by
    clear hl
    induction xs with
    | nil => rfl
    | cons x xs ih => rw [List.flatMap_cons, ih]; rfl
  rw [e]
  exact ⟨by simp, .inr ⟨w.heap.size, xs.length, (xs.map Value.string).toArray, rfl, Nat.le_refl _, heap_alloc_new w _, Nat.le_refl _, by unfold maxLen; omega, by simp, by rw [Nat.mul_one]; simp [List.take_of_length_le]⟩⟩
/-- The library's Split at a blank, as the reference's parts. -/
theorem split_any (s : ByteArray) (c : UInt8) (w : World) (he : Env w) (hs : s.size ≤ 1048576) : Calls Tryz.prog 42 #[.string s, .string ⟨#[c]⟩] w (TextsPost w ((splitL c s.data.toList).map mkB)) := by
  obtain ⟨_, ⟨m, hm⟩, _, _⟩ := he
  refine (Any.strings_Split { Tryz.laysM146 with } Tryz.laysM146.i9 s ⟨#[c]⟩ m w (by omega) hm (Nat.le_refl _)).mono ?_
  rintro e w' ⟨rfl, rfl⟩
  have hcnt : Lib.countB s ⟨#[c]⟩ + 1 = ((splitL c s.data.toList).map mkB).length := by
    rw [List.length_map, splitL_len, ← Lib.count_one]
  have hx : Lib.splitB ⟨#[c]⟩ 0 (Lib.countB s ⟨#[c]⟩) s = (splitL c s.data.toList).map mkB := by
    rw [← split_tie c _ s rfl, List.map_map]
    rw [show (mkB ∘ fun x : ByteArray => x.data.toList) = id from funext mkB_of, List.map_id]
  have hl : ((splitL c s.data.toList).map mkB).length ≤ 1099511627776 := by
    rw [List.length_map, splitL_len]
    have := List.count_le_length (a := c) (l := s.data.toList)
    have e2 : s.data.toList.length = s.size := Array.length_toList
    omega
  rw [hcnt, hx]
  exact ⟨_, _, rfl, own_new_texts w _ _ hl, (Below.refl _ _).alloc (Nat.le_refl _) _⟩
theorem cell_setter {w : World} {b o g : Nat} {v : Value} (h : w.cell? ⟨b, o, none⟩ = some v) (hne : b ≠ g) (i : Nat) (u : Value) : (w.setCell ⟨g, i, none⟩ u).cell? ⟨b, o, none⟩ = some v := by
  rw [World.cell?_setCell_other _ _ _ _ (fun e => hne (by injection e with e; exact e.symm))]
  exact h
set_option maxRecDepth 100000 in
set_option maxHeartbeats 8000000 in
theorem ReadResult_any (s : ByteArray) (w : World) (he : Env w) (hs : s.size ≤ 1048576) : Calls Tryz.prog 12 #[.string s] w (ResPost (readRes s.data.toList) w) := by
  have hb : Below w.heap.size w (w.alloc (.cells #[.string ⟨#[]⟩, .string ⟨#[]⟩, .int .i64 0, .int .i64 0] 33)) := (Below.refl _ _).alloc (Nat.le_refl _) _
  have V0 := Lib.hid (VarAt.new w 33 [.string ⟨#[]⟩, .string ⟨#[]⟩, .int .i64 0, .int .i64 0])
  have HENV := Lib.hid he
  have HSP : Hid (∀ W, Env W → Calls Tryz.prog 42 #[.string s, .string ⟨#[32]⟩] W (TextsPost W ((splitL 32 s.data.toList).map mkB))) := Lib.hid (fun W h => split_any s 32 W h hs)
  have hsl : s.data.toList.length = s.size := Array.length_toList
  have HLE : Hid (∀ x ∈ splitL 32 s.data.toList, (mkB x).size ≤ 1048576) := Lib.hid (fun x hx => by rw [mkB_size]; have := split_len_le x hx; omega)
  clear hsl he
  go_enter Tryz.func12, Tryz.ntmps12
  go_wp2_with fail
  refine (HSP.out _ (HENV.out.kept hb)).mono ?_
  rintro e w2 ⟨g, cap, rfl, ho, hd⟩
  replace V0 := Lib.hid (V0.out.kept hd)
  have hgB : w.heap.size + 1 ≤ g := by have := (ho.lt g rfl).1; simpa using this
  replace hb := hb.trans (hd.mono hb.size)
  have hgl := (ho.lt g rfl).2
  clear hd HSP
  generalize hP : splitL 32 s.data.toList = P at *
  have HP := Lib.hid hP
  clear hP
  cases P with
  | nil => exact absurd HP.out (splitL_ne _ _)
  | cons a P =>
    have c0 : w2.cell? ⟨g, 0, none⟩ = some (.string (mkB a)) := ho.cellAt 0 (by simp)
    have c1 := fun (h : 1 < ((a :: P).map mkB).length) => ho.cellAt 1 (by omega)
    have c2 := fun (h : 2 < ((a :: P).map mkB).length) => ho.cellAt 2 (by omega)
    have c3 := fun (h : 3 < ((a :: P).map mkB).length) => ho.cellAt 3 (by omega)
    have hfa := HLE.out a (List.mem_cons_self ..)
    have hx : Below w2.heap.size w2 (w2.alloc (.cells #[.string (mkB a), .string ⟨#[]⟩, .int .i64 0, .int .i64 0] 33)) := (Below.refl _ _).alloc (Nat.le_refl _) _
    have V1 := Lib.hid (VarAt.new w2 33 [.string (mkB a), .string ⟨#[]⟩, .int .i64 0, .int .i64 0])
    have hB1 : w.heap.size < w2.heap.size := by have := V0.out.lt; omega
    replace V0 := Lib.hid (V0.out.kept hx)
    replace hb := hb.trans (hx.mono hb.size)
    by_cases h4 : ((a :: P).map mkB).length = 4
    · obtain ⟨x, b, y, rfl⟩ : ∃ x b y, P = [x, b, y] := by
        match P, h4 with
        | [x, b, y], _ => exact ⟨x, b, y, rfl⟩
        | [], h => simp at h
        | [_], h => simp at h
        | [_, _], h => simp at h
        | _ :: _ :: _ :: _ :: _, h => simp at h
      have k1 : (w2.alloc (.cells #[.string (mkB a), .string ⟨#[]⟩, .int .i64 0, .int .i64 0] 33)).cell? ⟨g, 1, none⟩ = some (.string (mkB x)) := cell_kept (c1 (by simp)) hx
      have k2 : (w2.alloc (.cells #[.string (mkB a), .string ⟨#[]⟩, .int .i64 0, .int .i64 0] 33)).cell? ⟨g, 2, none⟩ = some (.string (mkB b)) := cell_kept (c2 (by simp)) hx
      have k3 : (w2.alloc (.cells #[.string (mkB a), .string ⟨#[]⟩, .int .i64 0, .int .i64 0] 33)).cell? ⟨g, 3, none⟩ = some (.string (mkB y)) := cell_kept (c3 (by simp)) hx
      have hfx := HLE.out x (by simp)
      have hfb := HLE.out b (by simp)
      have hfy := HLE.out y (by simp)
      have HI := Lib.hid (implRes_four HP.out)
      have HX : Hid (∀ W, Env W → Calls Tryz.prog 33 #[.string (mkB x)] W (NumPost (readDec x) W)) := Lib.hid (fun W h => by have := ReadDecimal_any (mkB x) W h hfx; rw [mkB_data] at this; exact this)
      have HY : Hid (∀ W, Env W → Calls Tryz.prog 33 #[.string (mkB y)] W (NumPost (readDec y) W)) := Lib.hid (fun W h => by have := ReadDecimal_any (mkB y) W h hfy; rw [mkB_data] at this; exact this)
      clear c1 c2 c3 ho h4 hx
      generalize readDec x = ox at *
      generalize readDec y = oy at *
      have HFT : Hid (Res.fit ⟨mkB a, mkB b, ox.getD 0, oy.getD 0⟩) := Lib.hid ⟨by show (mkB a).size ≤ _; omega, by show (mkB b).size ≤ _; omega⟩
      go_upto_region 4 with fail
      clear c0
      generalize w2.alloc (.cells #[.string (mkB a), .string ⟨#[]⟩, .int .i64 0, .int .i64 0] 33) = W3 at *
      generalize w2.heap.size = B1 at *
      have hne1 : g < B1 := hgl
      have k1' := cell_setter k1 (show g ≠ B1 by omega) 1 (.string (mkB b))
      have k3' := cell_setter k3 (show g ≠ B1 by omega) 1 (.string (mkB b))
      have q1 := V1.out.cell (i := 1) rfl
      have p1 := V1.out.free 1
      obtain ⟨o1, g1⟩ := V1.out.set 1 (.string (mkB b))
      replace V0 := Lib.hid (V0.out.grown g1 (by simp; omega))
      replace V1 := Lib.hid (o1.as (show _ = [.string (mkB a), .string (mkB b), .int .i64 0, .int .i64 0] from rfl))
      replace hb := hb.trans (below_row2 g1 (by omega) hb.size)
      clear o1 g1
      go_upto_region 5 with fail
      clear q1 p1 k1 k2 k3
      generalize W3.setCell ⟨B1, 1, none⟩ (.string (mkB b)) = W4 at *
      go_wp2_with fail
      refine (HX.out _ (HENV.out.kept hb)).mono ?_
      rintro e w5 ⟨rfl, hd⟩
      replace V0 := Lib.hid (V0.out.kept hd)
      replace V1 := Lib.hid (V1.out.kept hd)
      replace hb := hb.trans (hd.mono hb.size)
      have k3 := cell_kept k3' hd
      clear hd k1' k3' HX
      have k3' := cell_setter k3 (show g ≠ B1 by omega) 2 (.int .i64 (ox.getD 0))
      have q1 := V1.out.cell (i := 2) rfl
      have p1 := V1.out.free 2
      obtain ⟨o1, g1⟩ := V1.out.set 2 (.int .i64 (ox.getD 0))
      replace V0 := Lib.hid (V0.out.grown g1 (by simp; omega))
      replace V1 := Lib.hid (o1.as (show _ = [.string (mkB a), .string (mkB b), .int .i64 (ox.getD 0), .int .i64 0] from rfl))
      replace hb := hb.trans (below_row2 g1 (by omega) hb.size)
      clear o1 g1
      go_upto_region 6 with fail
      clear q1 p1 k3
      generalize w5.setCell ⟨B1, 2, none⟩ (.int .i64 (ox.getD 0)) = W6 at *
      go_wp2_with fail
      refine (HY.out _ (HENV.out.kept hb)).mono ?_
      rintro e w7 ⟨rfl, hd⟩
      replace V0 := Lib.hid (V0.out.kept hd)
      replace V1 := Lib.hid (V1.out.kept hd)
      replace hb := hb.trans (hd.mono hb.size)
      clear hd k3' HY
      have q1 := V1.out.cell (i := 3) rfl
      have p1 := V1.out.free 3
      obtain ⟨o1, g1⟩ := V1.out.set 3 (.int .i64 (oy.getD 0))
      replace V0 := Lib.hid (V0.out.grown g1 (by simp; omega))
      replace V1 := Lib.hid (o1.as (show _ = [.string (mkB a), .string (mkB b), .int .i64 (ox.getD 0), .int .i64 (oy.getD 0)] from rfl))
      replace hb := hb.trans (below_row2 g1 (by omega) hb.size)
      clear o1 g1
      go_upto_region 7 with fail
      clear q1 p1
      generalize w7.setCell ⟨B1, 3, none⟩ (.int .i64 (oy.getD 0)) = W8 at *
      generalize ox.getD 0 = xv at *
      generalize oy.getD 0 = yv at *
      have c0 := V1.out.cell (i := 0) (v := .string (⟨mkB a, mkB b, xv, yv⟩ : Res).a) rfl
      have c1 := V1.out.cell (i := 1) (v := .string (⟨mkB a, mkB b, xv, yv⟩ : Res).b) rfl
      have c2 := V1.out.cell (i := 2) (v := .int .i64 (⟨mkB a, mkB b, xv, yv⟩ : Res).sa) rfl
      have c3 := V1.out.cell (i := 3) (v := .int .i64 (⟨mkB a, mkB b, xv, yv⟩ : Res).sb) rfl
      cases hok : resOk (⟨mkB a, mkB b, xv, yv⟩ : Res) with
      | false =>
        have HN : Hid (readRes s.data.toList = none) := Lib.hid (readRes_no HI.out (by rw [hok]; exact Bool.false_ne_true))
        go_wp2_with fail
        refine (validResult_any (⟨mkB a, mkB b, xv, yv⟩ : Res) _ HFT.out).mono ?_
        rintro e w6 ⟨rfl, hd⟩
        rw [hok]
        replace V0 := Lib.hid (V0.out.kept hd)
        replace hb := hb.trans (hd.mono hb.size)
        clear hok hd c0 c1 c2 c3 V1
        have d0 := V0.out.cell (i := 0) rfl
        have d1 := V0.out.cell (i := 1) rfl
        have d2 := V0.out.cell (i := 2) rfl
        have d3 := V0.out.cell (i := 3) rfl
        have f0 := V0.out.free 0
        have f1 := V0.out.free 1
        have f2 := V0.out.free 2
        have f3 := V0.out.free 3
        obtain ⟨o0, g0⟩ := V0.out.set 0 (.string (⟨⟨#[]⟩, ⟨#[]⟩, 0, 0⟩ : Res).a)
        obtain ⟨o1, g1⟩ := o0.set 1 (.string (⟨⟨#[]⟩, ⟨#[]⟩, 0, 0⟩ : Res).b)
        obtain ⟨o2, g2⟩ := o1.set 2 (.int .i64 (⟨⟨#[]⟩, ⟨#[]⟩, 0, 0⟩ : Res).sa)
        obtain ⟨o3, g3⟩ := o2.set 3 (.int .i64 (⟨⟨#[]⟩, ⟨#[]⟩, 0, 0⟩ : Res).sb)
        have GG := grownBy_trans (grownBy_trans (grownBy_trans g0 g1) g2) g3
        have hb9 := hb.trans (below_row2 GG (Nat.le_refl _) hb.size)
        have e0 := o3.cell (i := 0) (v := .string (⟨⟨#[]⟩, ⟨#[]⟩, 0, 0⟩ : Res).a) rfl
        have e1 := o3.cell (i := 1) (v := .string (⟨⟨#[]⟩, ⟨#[]⟩, 0, 0⟩ : Res).b) rfl
        have e2 := o3.cell (i := 2) (v := .int .i64 (⟨⟨#[]⟩, ⟨#[]⟩, 0, 0⟩ : Res).sa) rfl
        have e3 := o3.cell (i := 3) (v := .int .i64 (⟨⟨#[]⟩, ⟨#[]⟩, 0, 0⟩ : Res).sb) rfl
        clear o0 o1 o2 o3 g0 g1 g2 g3 GG
        go_wp2
        refine bodyPost_ret (v := .tuple #[.agg #[.string ⟨#[]⟩, .string ⟨#[]⟩, .int .i64 0, .int .i64 0], .bool false]) (by simp [results, Tryz.results12, go_sem, e0, e1, e2, e3]) rfl ?_
        exact ⟨by rw [HN.out]; rfl, hb9⟩
      | true =>
        have HTX := Lib.hid (resultText_ok hok)
        by_cases heq : resultL (⟨mkB a, mkB b, xv, yv⟩ : Res) = s.data.toList
        · have HN : Hid (readRes s.data.toList = some (⟨mkB a, mkB b, xv, yv⟩ : Res)) := Lib.hid (readRes_yes HI.out hok heq)
          have hq1 : ((mkB (resultL (⟨mkB a, mkB b, xv, yv⟩ : Res))).toList != s.toList) = false := by rw [mkB_list, ByteArray.toList_eq, heq]; simp
          have hq2 : ((mkB (resultL (⟨mkB a, mkB b, xv, yv⟩ : Res))).toList == s.toList) = true := by rw [mkB_list, ByteArray.toList_eq, heq]; simp
          go_wp2_with fail
          refine (validResult_any (⟨mkB a, mkB b, xv, yv⟩ : Res) _ HFT.out).mono ?_
          rintro e w6 ⟨rfl, hd⟩
          rw [hok]
          replace V0 := Lib.hid (V0.out.kept hd)
          replace V1 := Lib.hid (V1.out.kept hd)
          replace hb := hb.trans (hd.mono hb.size)
          clear hok heq hd c0 c1 c2 c3
          have c0 := V1.out.cell (i := 0) (v := .string (⟨mkB a, mkB b, xv, yv⟩ : Res).a) rfl
          have c1 := V1.out.cell (i := 1) (v := .string (⟨mkB a, mkB b, xv, yv⟩ : Res).b) rfl
          have c2 := V1.out.cell (i := 2) (v := .int .i64 (⟨mkB a, mkB b, xv, yv⟩ : Res).sa) rfl
          have c3 := V1.out.cell (i := 3) (v := .int .i64 (⟨mkB a, mkB b, xv, yv⟩ : Res).sb) rfl
          go_wp2_with fail
          refine (ResultText_any (⟨mkB a, mkB b, xv, yv⟩ : Res) _ HFT.out (HENV.out.kept hb).1).mono ?_
          rintro e w7 ⟨rfl, hd⟩
          rw [HTX.out]
          replace V0 := Lib.hid (V0.out.kept hd)
          replace V1 := Lib.hid (V1.out.kept hd)
          replace hb := hb.trans (hd.mono hb.size)
          clear hd c0 c1 c2 c3
          generalize mkB (resultL (⟨mkB a, mkB b, xv, yv⟩ : Res)) = tx at *
          have c0 := V1.out.cell (i := 0) (v := .string (⟨mkB a, mkB b, xv, yv⟩ : Res).a) rfl
          have c1 := V1.out.cell (i := 1) (v := .string (⟨mkB a, mkB b, xv, yv⟩ : Res).b) rfl
          have c2 := V1.out.cell (i := 2) (v := .int .i64 (⟨mkB a, mkB b, xv, yv⟩ : Res).sa) rfl
          have c3 := V1.out.cell (i := 3) (v := .int .i64 (⟨mkB a, mkB b, xv, yv⟩ : Res).sb) rfl
          have hbl := V1.out.lt
          have d0 := V0.out.cell (i := 0) rfl
          have d1 := V0.out.cell (i := 1) rfl
          have d2 := V0.out.cell (i := 2) rfl
          have d3 := V0.out.cell (i := 3) rfl
          have f0 := V0.out.free 0
          have f1 := V0.out.free 1
          have f2 := V0.out.free 2
          have f3 := V0.out.free 3
          obtain ⟨o0, g0⟩ := V0.out.set 0 (.string (⟨mkB a, mkB b, xv, yv⟩ : Res).a)
          obtain ⟨o1, g1⟩ := o0.set 1 (.string (⟨mkB a, mkB b, xv, yv⟩ : Res).b)
          obtain ⟨o2, g2⟩ := o1.set 2 (.int .i64 (⟨mkB a, mkB b, xv, yv⟩ : Res).sa)
          obtain ⟨o3, g3⟩ := o2.set 3 (.int .i64 (⟨mkB a, mkB b, xv, yv⟩ : Res).sb)
          have GG := grownBy_trans (grownBy_trans (grownBy_trans g0 g1) g2) g3
          have hb9 := hb.trans (below_row2 GG (Nat.le_refl _) hb.size)
          have e0 := o3.cell (i := 0) (v := .string (⟨mkB a, mkB b, xv, yv⟩ : Res).a) rfl
          have e1 := o3.cell (i := 1) (v := .string (⟨mkB a, mkB b, xv, yv⟩ : Res).b) rfl
          have e2 := o3.cell (i := 2) (v := .int .i64 (⟨mkB a, mkB b, xv, yv⟩ : Res).sa) rfl
          have e3 := o3.cell (i := 3) (v := .int .i64 (⟨mkB a, mkB b, xv, yv⟩ : Res).sb) rfl
          clear o0 o1 o2 o3 g0 g1 g2 g3 GG
          go_wp2
          refine bodyPost_ret (v := .tuple #[.agg #[.string (⟨mkB a, mkB b, xv, yv⟩ : Res).a, .string (⟨mkB a, mkB b, xv, yv⟩ : Res).b, .int .i64 (⟨mkB a, mkB b, xv, yv⟩ : Res).sa, .int .i64 (⟨mkB a, mkB b, xv, yv⟩ : Res).sb], .bool true]) (by simp [results, Tryz.results12, go_sem, e0, e1, e2, e3]) rfl ?_
          exact ⟨by rw [HN.out]; rfl, hb9⟩
        · have HN : Hid (readRes s.data.toList = none) := Lib.hid (readRes_no' HI.out heq)
          have hq1 : ((mkB (resultL (⟨mkB a, mkB b, xv, yv⟩ : Res))).toList != s.toList) = true := by rw [mkB_list, ByteArray.toList_eq]; simpa using heq
          have hq2 : ((mkB (resultL (⟨mkB a, mkB b, xv, yv⟩ : Res))).toList == s.toList) = false := by rw [mkB_list, ByteArray.toList_eq]; simpa using heq
          go_wp2_with fail
          refine (validResult_any (⟨mkB a, mkB b, xv, yv⟩ : Res) _ HFT.out).mono ?_
          rintro e w6 ⟨rfl, hd⟩
          rw [hok]
          replace V0 := Lib.hid (V0.out.kept hd)
          replace V1 := Lib.hid (V1.out.kept hd)
          replace hb := hb.trans (hd.mono hb.size)
          clear hok heq hd c0 c1 c2 c3
          have c0 := V1.out.cell (i := 0) (v := .string (⟨mkB a, mkB b, xv, yv⟩ : Res).a) rfl
          have c1 := V1.out.cell (i := 1) (v := .string (⟨mkB a, mkB b, xv, yv⟩ : Res).b) rfl
          have c2 := V1.out.cell (i := 2) (v := .int .i64 (⟨mkB a, mkB b, xv, yv⟩ : Res).sa) rfl
          have c3 := V1.out.cell (i := 3) (v := .int .i64 (⟨mkB a, mkB b, xv, yv⟩ : Res).sb) rfl
          go_wp2_with fail
          refine (ResultText_any (⟨mkB a, mkB b, xv, yv⟩ : Res) _ HFT.out (HENV.out.kept hb).1).mono ?_
          rintro e w7 ⟨rfl, hd⟩
          rw [HTX.out]
          replace V0 := Lib.hid (V0.out.kept hd)
          replace V1 := Lib.hid (V1.out.kept hd)
          replace hb := hb.trans (hd.mono hb.size)
          clear hd c0 c1 c2 c3
          generalize mkB (resultL (⟨mkB a, mkB b, xv, yv⟩ : Res)) = tx at *
          have d0 := V0.out.cell (i := 0) rfl
          have d1 := V0.out.cell (i := 1) rfl
          have d2 := V0.out.cell (i := 2) rfl
          have d3 := V0.out.cell (i := 3) rfl
          have f0 := V0.out.free 0
          have f1 := V0.out.free 1
          have f2 := V0.out.free 2
          have f3 := V0.out.free 3
          obtain ⟨o0, g0⟩ := V0.out.set 0 (.string (⟨⟨#[]⟩, ⟨#[]⟩, 0, 0⟩ : Res).a)
          obtain ⟨o1, g1⟩ := o0.set 1 (.string (⟨⟨#[]⟩, ⟨#[]⟩, 0, 0⟩ : Res).b)
          obtain ⟨o2, g2⟩ := o1.set 2 (.int .i64 (⟨⟨#[]⟩, ⟨#[]⟩, 0, 0⟩ : Res).sa)
          obtain ⟨o3, g3⟩ := o2.set 3 (.int .i64 (⟨⟨#[]⟩, ⟨#[]⟩, 0, 0⟩ : Res).sb)
          have GG := grownBy_trans (grownBy_trans (grownBy_trans g0 g1) g2) g3
          have hb9 := hb.trans (below_row2 GG (Nat.le_refl _) hb.size)
          have e0 := o3.cell (i := 0) (v := .string (⟨⟨#[]⟩, ⟨#[]⟩, 0, 0⟩ : Res).a) rfl
          have e1 := o3.cell (i := 1) (v := .string (⟨⟨#[]⟩, ⟨#[]⟩, 0, 0⟩ : Res).b) rfl
          have e2 := o3.cell (i := 2) (v := .int .i64 (⟨⟨#[]⟩, ⟨#[]⟩, 0, 0⟩ : Res).sa) rfl
          have e3 := o3.cell (i := 3) (v := .int .i64 (⟨⟨#[]⟩, ⟨#[]⟩, 0, 0⟩ : Res).sb) rfl
          clear o0 o1 o2 o3 g0 g1 g2 g3 GG
          go_wp2
          refine bodyPost_ret (v := .tuple #[.agg #[.string ⟨#[]⟩, .string ⟨#[]⟩, .int .i64 0, .int .i64 0], .bool false]) (by simp [results, Tryz.results12, go_sem, e0, e1, e2, e3]) rfl ?_
          exact ⟨by rw [HN.out]; rfl, hb9⟩
    · have h4' : ((((a :: P).map mkB).length : Int) == 4) = false := beq_eq_false_iff_ne.2 (by omega)
      have hn0 : 0 < ((a :: P).map mkB).length := by simp
      have HI := Lib.hid (implRes_other HP.out (by simpa using h4))
      have HFT : Hid (Res.fit ⟨mkB a, ⟨#[]⟩, 0, 0⟩) := Lib.hid ⟨by show (mkB a).size ≤ _; omega, by show (0 : Nat) ≤ _; omega⟩
      clear c1 c2 c3 ho h4 hx
      generalize ((a :: P).map mkB).length = n at *
      go_upto_region 7 with fail
      clear c0
      generalize w2.alloc (.cells #[.string (mkB a), .string ⟨#[]⟩, .int .i64 0, .int .i64 0] 33) = W3 at *
      generalize w2.heap.size = B1 at *
      have c0 := V1.out.cell (i := 0) (v := .string (⟨mkB a, ⟨#[]⟩, 0, 0⟩ : Res).a) rfl
      have c1 := V1.out.cell (i := 1) (v := .string (⟨mkB a, ⟨#[]⟩, 0, 0⟩ : Res).b) rfl
      have c2 := V1.out.cell (i := 2) (v := .int .i64 (⟨mkB a, ⟨#[]⟩, 0, 0⟩ : Res).sa) rfl
      have c3 := V1.out.cell (i := 3) (v := .int .i64 (⟨mkB a, ⟨#[]⟩, 0, 0⟩ : Res).sb) rfl
      cases hok : resOk (⟨mkB a, ⟨#[]⟩, 0, 0⟩ : Res) with
      | false =>
        have HN : Hid (readRes s.data.toList = none) := Lib.hid (readRes_no HI.out (by rw [hok]; exact Bool.false_ne_true))
        go_wp2_with fail
        refine (validResult_any (⟨mkB a, ⟨#[]⟩, 0, 0⟩ : Res) _ HFT.out).mono ?_
        rintro e w6 ⟨rfl, hd⟩
        rw [hok]
        replace V0 := Lib.hid (V0.out.kept hd)
        replace hb := hb.trans (hd.mono hb.size)
        clear hok hd c0 c1 c2 c3 V1
        have d0 := V0.out.cell (i := 0) rfl
        have d1 := V0.out.cell (i := 1) rfl
        have d2 := V0.out.cell (i := 2) rfl
        have d3 := V0.out.cell (i := 3) rfl
        have f0 := V0.out.free 0
        have f1 := V0.out.free 1
        have f2 := V0.out.free 2
        have f3 := V0.out.free 3
        obtain ⟨o0, g0⟩ := V0.out.set 0 (.string (⟨⟨#[]⟩, ⟨#[]⟩, 0, 0⟩ : Res).a)
        obtain ⟨o1, g1⟩ := o0.set 1 (.string (⟨⟨#[]⟩, ⟨#[]⟩, 0, 0⟩ : Res).b)
        obtain ⟨o2, g2⟩ := o1.set 2 (.int .i64 (⟨⟨#[]⟩, ⟨#[]⟩, 0, 0⟩ : Res).sa)
        obtain ⟨o3, g3⟩ := o2.set 3 (.int .i64 (⟨⟨#[]⟩, ⟨#[]⟩, 0, 0⟩ : Res).sb)
        have GG := grownBy_trans (grownBy_trans (grownBy_trans g0 g1) g2) g3
        have hb9 := hb.trans (below_row2 GG (Nat.le_refl _) hb.size)
        have e0 := o3.cell (i := 0) (v := .string (⟨⟨#[]⟩, ⟨#[]⟩, 0, 0⟩ : Res).a) rfl
        have e1 := o3.cell (i := 1) (v := .string (⟨⟨#[]⟩, ⟨#[]⟩, 0, 0⟩ : Res).b) rfl
        have e2 := o3.cell (i := 2) (v := .int .i64 (⟨⟨#[]⟩, ⟨#[]⟩, 0, 0⟩ : Res).sa) rfl
        have e3 := o3.cell (i := 3) (v := .int .i64 (⟨⟨#[]⟩, ⟨#[]⟩, 0, 0⟩ : Res).sb) rfl
        clear o0 o1 o2 o3 g0 g1 g2 g3 GG
        go_wp2
        refine bodyPost_ret (v := .tuple #[.agg #[.string ⟨#[]⟩, .string ⟨#[]⟩, .int .i64 0, .int .i64 0], .bool false]) (by simp [results, Tryz.results12, go_sem, e0, e1, e2, e3]) rfl ?_
        exact ⟨by rw [HN.out]; rfl, hb9⟩
      | true =>
        have HTX := Lib.hid (resultText_ok hok)
        by_cases heq : resultL (⟨mkB a, ⟨#[]⟩, 0, 0⟩ : Res) = s.data.toList
        · have HN : Hid (readRes s.data.toList = some (⟨mkB a, ⟨#[]⟩, 0, 0⟩ : Res)) := Lib.hid (readRes_yes HI.out hok heq)
          have hq1 : ((mkB (resultL (⟨mkB a, ⟨#[]⟩, 0, 0⟩ : Res))).toList != s.toList) = false := by rw [mkB_list, ByteArray.toList_eq, heq]; simp
          have hq2 : ((mkB (resultL (⟨mkB a, ⟨#[]⟩, 0, 0⟩ : Res))).toList == s.toList) = true := by rw [mkB_list, ByteArray.toList_eq, heq]; simp
          go_wp2_with fail
          refine (validResult_any (⟨mkB a, ⟨#[]⟩, 0, 0⟩ : Res) _ HFT.out).mono ?_
          rintro e w6 ⟨rfl, hd⟩
          rw [hok]
          replace V0 := Lib.hid (V0.out.kept hd)
          replace V1 := Lib.hid (V1.out.kept hd)
          replace hb := hb.trans (hd.mono hb.size)
          clear hok heq hd c0 c1 c2 c3
          have c0 := V1.out.cell (i := 0) (v := .string (⟨mkB a, ⟨#[]⟩, 0, 0⟩ : Res).a) rfl
          have c1 := V1.out.cell (i := 1) (v := .string (⟨mkB a, ⟨#[]⟩, 0, 0⟩ : Res).b) rfl
          have c2 := V1.out.cell (i := 2) (v := .int .i64 (⟨mkB a, ⟨#[]⟩, 0, 0⟩ : Res).sa) rfl
          have c3 := V1.out.cell (i := 3) (v := .int .i64 (⟨mkB a, ⟨#[]⟩, 0, 0⟩ : Res).sb) rfl
          go_wp2_with fail
          refine (ResultText_any (⟨mkB a, ⟨#[]⟩, 0, 0⟩ : Res) _ HFT.out (HENV.out.kept hb).1).mono ?_
          rintro e w7 ⟨rfl, hd⟩
          rw [HTX.out]
          replace V0 := Lib.hid (V0.out.kept hd)
          replace V1 := Lib.hid (V1.out.kept hd)
          replace hb := hb.trans (hd.mono hb.size)
          clear hd c0 c1 c2 c3
          generalize mkB (resultL (⟨mkB a, ⟨#[]⟩, 0, 0⟩ : Res)) = tx at *
          have c0 := V1.out.cell (i := 0) (v := .string (⟨mkB a, ⟨#[]⟩, 0, 0⟩ : Res).a) rfl
          have c1 := V1.out.cell (i := 1) (v := .string (⟨mkB a, ⟨#[]⟩, 0, 0⟩ : Res).b) rfl
          have c2 := V1.out.cell (i := 2) (v := .int .i64 (⟨mkB a, ⟨#[]⟩, 0, 0⟩ : Res).sa) rfl
          have c3 := V1.out.cell (i := 3) (v := .int .i64 (⟨mkB a, ⟨#[]⟩, 0, 0⟩ : Res).sb) rfl
          have hbl := V1.out.lt
          have d0 := V0.out.cell (i := 0) rfl
          have d1 := V0.out.cell (i := 1) rfl
          have d2 := V0.out.cell (i := 2) rfl
          have d3 := V0.out.cell (i := 3) rfl
          have f0 := V0.out.free 0
          have f1 := V0.out.free 1
          have f2 := V0.out.free 2
          have f3 := V0.out.free 3
          obtain ⟨o0, g0⟩ := V0.out.set 0 (.string (⟨mkB a, ⟨#[]⟩, 0, 0⟩ : Res).a)
          obtain ⟨o1, g1⟩ := o0.set 1 (.string (⟨mkB a, ⟨#[]⟩, 0, 0⟩ : Res).b)
          obtain ⟨o2, g2⟩ := o1.set 2 (.int .i64 (⟨mkB a, ⟨#[]⟩, 0, 0⟩ : Res).sa)
          obtain ⟨o3, g3⟩ := o2.set 3 (.int .i64 (⟨mkB a, ⟨#[]⟩, 0, 0⟩ : Res).sb)
          have GG := grownBy_trans (grownBy_trans (grownBy_trans g0 g1) g2) g3
          have hb9 := hb.trans (below_row2 GG (Nat.le_refl _) hb.size)
          have e0 := o3.cell (i := 0) (v := .string (⟨mkB a, ⟨#[]⟩, 0, 0⟩ : Res).a) rfl
          have e1 := o3.cell (i := 1) (v := .string (⟨mkB a, ⟨#[]⟩, 0, 0⟩ : Res).b) rfl
          have e2 := o3.cell (i := 2) (v := .int .i64 (⟨mkB a, ⟨#[]⟩, 0, 0⟩ : Res).sa) rfl
          have e3 := o3.cell (i := 3) (v := .int .i64 (⟨mkB a, ⟨#[]⟩, 0, 0⟩ : Res).sb) rfl
          clear o0 o1 o2 o3 g0 g1 g2 g3 GG
          go_wp2
          refine bodyPost_ret (v := .tuple #[.agg #[.string (⟨mkB a, ⟨#[]⟩, 0, 0⟩ : Res).a, .string (⟨mkB a, ⟨#[]⟩, 0, 0⟩ : Res).b, .int .i64 (⟨mkB a, ⟨#[]⟩, 0, 0⟩ : Res).sa, .int .i64 (⟨mkB a, ⟨#[]⟩, 0, 0⟩ : Res).sb], .bool true]) (by simp [results, Tryz.results12, go_sem, e0, e1, e2, e3]) rfl ?_
          exact ⟨by rw [HN.out]; rfl, hb9⟩
        · have HN : Hid (readRes s.data.toList = none) := Lib.hid (readRes_no' HI.out heq)
          have hq1 : ((mkB (resultL (⟨mkB a, ⟨#[]⟩, 0, 0⟩ : Res))).toList != s.toList) = true := by rw [mkB_list, ByteArray.toList_eq]; simpa using heq
          have hq2 : ((mkB (resultL (⟨mkB a, ⟨#[]⟩, 0, 0⟩ : Res))).toList == s.toList) = false := by rw [mkB_list, ByteArray.toList_eq]; simpa using heq
          go_wp2_with fail
          refine (validResult_any (⟨mkB a, ⟨#[]⟩, 0, 0⟩ : Res) _ HFT.out).mono ?_
          rintro e w6 ⟨rfl, hd⟩
          rw [hok]
          replace V0 := Lib.hid (V0.out.kept hd)
          replace V1 := Lib.hid (V1.out.kept hd)
          replace hb := hb.trans (hd.mono hb.size)
          clear hok heq hd c0 c1 c2 c3
          have c0 := V1.out.cell (i := 0) (v := .string (⟨mkB a, ⟨#[]⟩, 0, 0⟩ : Res).a) rfl
          have c1 := V1.out.cell (i := 1) (v := .string (⟨mkB a, ⟨#[]⟩, 0, 0⟩ : Res).b) rfl
          have c2 := V1.out.cell (i := 2) (v := .int .i64 (⟨mkB a, ⟨#[]⟩, 0, 0⟩ : Res).sa) rfl
          have c3 := V1.out.cell (i := 3) (v := .int .i64 (⟨mkB a, ⟨#[]⟩, 0, 0⟩ : Res).sb) rfl
          go_wp2_with fail
          refine (ResultText_any (⟨mkB a, ⟨#[]⟩, 0, 0⟩ : Res) _ HFT.out (HENV.out.kept hb).1).mono ?_
          rintro e w7 ⟨rfl, hd⟩
          rw [HTX.out]
          replace V0 := Lib.hid (V0.out.kept hd)
          replace V1 := Lib.hid (V1.out.kept hd)
          replace hb := hb.trans (hd.mono hb.size)
          clear hd c0 c1 c2 c3
          generalize mkB (resultL (⟨mkB a, ⟨#[]⟩, 0, 0⟩ : Res)) = tx at *
          have d0 := V0.out.cell (i := 0) rfl
          have d1 := V0.out.cell (i := 1) rfl
          have d2 := V0.out.cell (i := 2) rfl
          have d3 := V0.out.cell (i := 3) rfl
          have f0 := V0.out.free 0
          have f1 := V0.out.free 1
          have f2 := V0.out.free 2
          have f3 := V0.out.free 3
          obtain ⟨o0, g0⟩ := V0.out.set 0 (.string (⟨⟨#[]⟩, ⟨#[]⟩, 0, 0⟩ : Res).a)
          obtain ⟨o1, g1⟩ := o0.set 1 (.string (⟨⟨#[]⟩, ⟨#[]⟩, 0, 0⟩ : Res).b)
          obtain ⟨o2, g2⟩ := o1.set 2 (.int .i64 (⟨⟨#[]⟩, ⟨#[]⟩, 0, 0⟩ : Res).sa)
          obtain ⟨o3, g3⟩ := o2.set 3 (.int .i64 (⟨⟨#[]⟩, ⟨#[]⟩, 0, 0⟩ : Res).sb)
          have GG := grownBy_trans (grownBy_trans (grownBy_trans g0 g1) g2) g3
          have hb9 := hb.trans (below_row2 GG (Nat.le_refl _) hb.size)
          have e0 := o3.cell (i := 0) (v := .string (⟨⟨#[]⟩, ⟨#[]⟩, 0, 0⟩ : Res).a) rfl
          have e1 := o3.cell (i := 1) (v := .string (⟨⟨#[]⟩, ⟨#[]⟩, 0, 0⟩ : Res).b) rfl
          have e2 := o3.cell (i := 2) (v := .int .i64 (⟨⟨#[]⟩, ⟨#[]⟩, 0, 0⟩ : Res).sa) rfl
          have e3 := o3.cell (i := 3) (v := .int .i64 (⟨⟨#[]⟩, ⟨#[]⟩, 0, 0⟩ : Res).sb) rfl
          clear o0 o1 o2 o3 g0 g1 g2 g3 GG
          go_wp2
          refine bodyPost_ret (v := .tuple #[.agg #[.string ⟨#[]⟩, .string ⟨#[]⟩, .int .i64 0, .int .i64 0], .bool false]) (by simp [results, Tryz.results12, go_sem, e0, e1, e2, e3]) rfl ?_
          exact ⟨by rw [HN.out]; rfl, hb9⟩
end Go.Proofs.YtlbnjdgfggiifaaGreatDoor
