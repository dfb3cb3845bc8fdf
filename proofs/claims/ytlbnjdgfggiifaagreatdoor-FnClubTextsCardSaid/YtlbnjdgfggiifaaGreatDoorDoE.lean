/- Contract: the reference's result of a text. For every text of at most 2^20 bytes. -/
import Derived.Test.YtlbnjdgfggiifaaGreatDoorDoB
import Derived.Test.YtlbnjdgfggiifaaGreatDoorSplW
import Derived.Test.YtlbnjdgfggiifaaGreatDoorNumW
import Derived.Test.YtlbnjdgfggiifaaGreatDoorVar
import Derived.StillTailTactics
namespace Go.Proofs.YtlbnjdgfggiifaaGreatDoor
open Go.ChangeShapes Go.WideShapes Go.ChangeAt Go.RowKit Go.Sort

theorem below_row2 {a b : World} {N r : Nat} (h : a.grownBy b (some r)) (hr : N ≤ r) (hN : N ≤ a.heap.size) : Below N a b := (Below.refl N a).grown h hN (fun k hk => by cases hk; exact hr)
theorem split_len_le {c : UInt8} {l : List UInt8} : ∀ x ∈ splitL c l, x.length ≤ l.length := by
  induction l with
  | nil => intro x hx; simp [splitL] at hx; simp [hx]
  | cons b l ih =>
    unfold splitL
    by_cases hb : b = c
    · rw [if_pos hb]
      intro x hx
      rcases List.mem_cons.1 hx with rfl | hx
      · simp
      · have := ih x hx; simp only [List.length_cons]; omega
    · rw [if_neg hb]
      split
      · rename_i h; exact absurd h (splitL_ne c l)
      · rename_i y ys h
        rw [h] at ih
        intro x hx
        rcases List.mem_cons.1 hx with rfl | hx
        · have := ih y (List.mem_cons_self ..); simp only [List.length_cons]; omega
        · have := ih x (List.mem_cons_of_mem _ hx); simp only [List.length_cons]; omega
def resOf (o : Option Res) : Res := o.getD ⟨⟨#[]⟩, ⟨#[]⟩, 0, 0⟩
/-- a result that was read, or none -/
def ResPost (o : Option Res) (w : World) (e : Ending) (w' : World) : Prop := e = .returned (.tuple #[.agg #[.string (resOf o).a, .string (resOf o).b, .int .i64 (resOf o).sa, .int .i64 (resOf o).sb], .bool o.isSome]) ∧ Below w.heap.size w w'
theorem specRes_two {l a x : List UInt8} (h : splitL 32 l = [a, x]) (hx : x = bye) : specRes l = okRes ⟨mkB a, ⟨#[]⟩, 0, 0⟩ := by
  unfold specRes; rw [h]; exact if_pos hx
theorem specRes_two' {l a x : List UInt8} (h : splitL 32 l = [a, x]) (hx : ¬ x = bye) : specRes l = none := by
  unfold specRes; rw [h]; exact if_neg hx
theorem specRes_four' {l a x y : List UInt8} (h : splitL 32 l = [a, x, [], y]) : specRes l = none := by
  unfold specRes; rw [h]; exact if_pos rfl
theorem specRes_four {l a x b y : List UInt8} (h : splitL 32 l = [a, x, b, y]) (hb : b ≠ []) : specRes l = match specNum x, specNum y with
    | some m, some n => okRes ⟨mkB a, mkB b, m, n⟩
    | _, _ => none := by
  unfold specRes; rw [h]; exact if_neg hb
theorem specRes_other {l : List UInt8} (h2 : (splitL 32 l).length ≠ 2) (h4 : (splitL 32 l).length ≠ 4) : specRes l = none := by
  unfold specRes
  split
  · rename_i h; rw [h] at h2; simp at h2
  · rename_i h; rw [h] at h4; simp at h4
  · rfl
theorem mkB_empty {l : List UInt8} : (mkB l).toList.isEmpty = l.isEmpty := by rw [mkB_list]
set_option maxRecDepth 100000 in
set_option maxHeartbeats 8000000 in
theorem specReadResult_any (s : ByteArray) (w : World) (hs : s.size ≤ 1048576) : Calls Tryz.prog 14 #[.string s] w (ResPost (specRes s.data.toList) w) := by
  have hb : Below w.heap.size w (w.alloc (.cells #[.string ⟨#[]⟩, .string ⟨#[]⟩, .int .i64 0, .int .i64 0] 33)) := (Below.refl _ _).alloc (Nat.le_refl _) _
  have V0 := Lib.hid (VarAt.new w 33 [.string ⟨#[]⟩, .string ⟨#[]⟩, .int .i64 0, .int .i64 0])
  have HSP : Hid (∀ W, Calls Tryz.prog 37 #[.string s, .int .u8 32] W (TextsPost W ((splitL 32 s.data.toList).map mkB))) := Lib.hid (fun W => l01Split_any s 32 W hs)
  have hsl : s.data.toList.length = s.size := Array.length_toList
  have HLE : Hid (∀ x ∈ splitL 32 s.data.toList, (mkB x).size ≤ 1048576) := Lib.hid (fun x hx => by rw [mkB_size]; have := split_len_le x hx; omega)
  clear hsl
  go_enter Tryz.func14, Tryz.ntmps14
  go_wp2_with fail
  refine (HSP.out _).mono ?_
  rintro e w2 ⟨g, cap, rfl, ho, hd⟩
  replace V0 := Lib.hid (V0.out.kept hd)
  have hgB : w.heap.size + 1 ≤ g := by have := (ho.lt g rfl).1; simpa using this
  replace hb := hb.trans (hd.mono hb.size)
  have hgl := (ho.lt g rfl).2
  clear hd HSP
  generalize hP : splitL 32 s.data.toList = P at *
  have HP := Lib.hid hP
  clear hP
  cases P with
  | nil => exact absurd HP.out (splitL_ne _ _)
  | cons a P =>
    have c0 := ho.cellAt 0 (by simp)
    have c1 := fun (h : 1 < ((a :: P).map mkB).length) => ho.cellAt 1 (by omega)
    have c2 := fun (h : 2 < ((a :: P).map mkB).length) => ho.cellAt 2 (by omega)
    have c3 := fun (h : 3 < ((a :: P).map mkB).length) => ho.cellAt 3 (by omega)
    have hfa := HLE.out a (List.mem_cons_self ..)
    have HFT : Hid (Res.fit ⟨mkB a, ⟨#[]⟩, 0, 0⟩) := Lib.hid ⟨by show (mkB a).size ≤ _; omega, by show (0 : Nat) ≤ _; omega⟩
    rw [show (((a :: P).map mkB).flatMap Tx.enc)[0]? = some (.string (mkB a)) from rfl] at c0
    have hx : Below w2.heap.size w2 (w2.alloc (.cells #[.string (mkB a), .string ⟨#[]⟩, .int .i64 0, .int .i64 0] 33)) := (Below.refl _ _).alloc (Nat.le_refl _) _
    have V1 := Lib.hid (VarAt.new w2 33 [.string (mkB a), .string ⟨#[]⟩, .int .i64 0, .int .i64 0])
    have hB1 : w.heap.size < w2.heap.size := by have := V0.out.lt; omega
    replace V0 := Lib.hid (V0.out.kept hx)
    replace hb := hb.trans (hx.mono hb.size)
    by_cases h2 : ((a :: P).map mkB).length = 2
    · obtain ⟨x, rfl⟩ : ∃ x, P = [x] := by
        match P, h2 with
        | [x], _ => exact ⟨x, rfl⟩
        | [], h => simp at h
        | _ :: _ :: _, h => simp at h
      have k1 : (w2.alloc (.cells #[.string (mkB a), .string ⟨#[]⟩, .int .i64 0, .int .i64 0] 33)).cell? ⟨g, 1, none⟩ = some (.string (mkB x)) := cell_kept (c1 (by simp)) hx
      clear c1 c2 c3 ho h2 hx
      by_cases hbye : x = bye
      · have HS := Lib.hid (specRes_two HP.out hbye)
        subst hbye
        have k1' : (w2.alloc (.cells #[.string (mkB a), .string ⟨#[]⟩, .int .i64 0, .int .i64 0] 33)).cell? ⟨g, 1, none⟩ = some (.string ⟨#[98, 121, 101]⟩) := k1
        clear k1
        go_upto_region 11 with fail
        clear k1' c0
        generalize w2.alloc (.cells #[.string (mkB a), .string ⟨#[]⟩, .int .i64 0, .int .i64 0] 33) = W3 at *
        generalize w2.heap.size = B1 at *
        have c0 := V1.out.cell (i := 0) (v := .string (⟨mkB a, ⟨#[]⟩, 0, 0⟩ : Res).a) rfl
        have c1 := V1.out.cell (i := 1) (v := .string (⟨mkB a, ⟨#[]⟩, 0, 0⟩ : Res).b) rfl
        have c2 := V1.out.cell (i := 2) (v := .int .i64 (⟨mkB a, ⟨#[]⟩, 0, 0⟩ : Res).sa) rfl
        have c3 := V1.out.cell (i := 3) (v := .int .i64 (⟨mkB a, ⟨#[]⟩, 0, 0⟩ : Res).sb) rfl
        have HRA : Hid (ResAt W3 B1 0 (⟨mkB a, ⟨#[]⟩, 0, 0⟩ : Res)) := Lib.hid ⟨c0, by rw [Nat.zero_add]; exact c1, by rw [Nat.zero_add]; exact c2, by rw [Nat.zero_add]; exact c3⟩
        cases hok : resOk (⟨mkB a, ⟨#[]⟩, 0, 0⟩ : Res) with
        | false =>
          have HN : Hid (specRes s.data.toList = none) := Lib.hid (by rw [HS.out]; exact if_neg (by rw [hok]; exact Bool.false_ne_true))
          go_wp2_with fail
          refine (l26Result_any B1 0 (⟨mkB a, ⟨#[]⟩, 0, 0⟩ : Res) _ HRA.out HFT.out).mono ?_
          rintro e w5 ⟨rfl, hdd⟩
          rw [hok]
          have hd := hdd.below (W3).heap.size
          replace V0 := Lib.hid (V0.out.kept hd)
          replace hb := hb.trans (hd.mono hb.size)
          clear hok hdd hd c0 c1 c2 c3 HRA V1
          have d0 := V0.out.cell (i := 0) rfl
          have d1 := V0.out.cell (i := 1) rfl
          have d2 := V0.out.cell (i := 2) rfl
          have d3 := V0.out.cell (i := 3) rfl
          have f0 := V0.out.free 0
          have f1 := V0.out.free 1
          have f2 := V0.out.free 2
          have f3 := V0.out.free 3
          obtain ⟨o0, g0⟩ := V0.out.set 0 (.string (⟨⟨#[]⟩, ⟨#[]⟩, 0, 0⟩ : Res).a)
          obtain ⟨o1, g1⟩ := o0.set 1 (.string (⟨⟨#[]⟩, ⟨#[]⟩, 0, 0⟩ : Res).b)
          obtain ⟨o2, g2⟩ := o1.set 2 (.int .i64 (⟨⟨#[]⟩, ⟨#[]⟩, 0, 0⟩ : Res).sa)
          obtain ⟨o3, g3⟩ := o2.set 3 (.int .i64 (⟨⟨#[]⟩, ⟨#[]⟩, 0, 0⟩ : Res).sb)
          have GG := grownBy_trans (grownBy_trans (grownBy_trans g0 g1) g2) g3
          have hb9 := hb.trans (below_row2 GG (Nat.le_refl _) hb.size)
          have e0 := o3.cell (i := 0) (v := .string (⟨⟨#[]⟩, ⟨#[]⟩, 0, 0⟩ : Res).a) rfl
          have e1 := o3.cell (i := 1) (v := .string (⟨⟨#[]⟩, ⟨#[]⟩, 0, 0⟩ : Res).b) rfl
          have e2 := o3.cell (i := 2) (v := .int .i64 (⟨⟨#[]⟩, ⟨#[]⟩, 0, 0⟩ : Res).sa) rfl
          have e3 := o3.cell (i := 3) (v := .int .i64 (⟨⟨#[]⟩, ⟨#[]⟩, 0, 0⟩ : Res).sb) rfl
          clear o0 o1 o2 o3 g0 g1 g2 g3 GG
          go_wp2
          refine bodyPost_ret (v := .tuple #[.agg #[.string ⟨#[]⟩, .string ⟨#[]⟩, .int .i64 0, .int .i64 0], .bool false]) (by simp [results, Tryz.results14, go_sem, e0, e1, e2, e3]) rfl ?_
          exact ⟨by rw [HN.out]; rfl, hb9⟩
        | true =>
          have HN : Hid (specRes s.data.toList = some (⟨mkB a, ⟨#[]⟩, 0, 0⟩ : Res)) := Lib.hid (by rw [HS.out]; exact if_pos hok)
          go_wp2_with fail
          refine (l26Result_any B1 0 (⟨mkB a, ⟨#[]⟩, 0, 0⟩ : Res) _ HRA.out HFT.out).mono ?_
          rintro e w5 ⟨rfl, hdd⟩
          rw [hok]
          have hd := hdd.below (W3).heap.size
          replace V0 := Lib.hid (V0.out.kept hd)
          replace V1 := Lib.hid (V1.out.kept hd)
          replace hb := hb.trans (hd.mono hb.size)
          clear hok hdd hd c0 c1 c2 c3 HRA
          have c0 := V1.out.cell (i := 0) (v := .string (⟨mkB a, ⟨#[]⟩, 0, 0⟩ : Res).a) rfl
          have c1 := V1.out.cell (i := 1) (v := .string (⟨mkB a, ⟨#[]⟩, 0, 0⟩ : Res).b) rfl
          have c2 := V1.out.cell (i := 2) (v := .int .i64 (⟨mkB a, ⟨#[]⟩, 0, 0⟩ : Res).sa) rfl
          have c3 := V1.out.cell (i := 3) (v := .int .i64 (⟨mkB a, ⟨#[]⟩, 0, 0⟩ : Res).sb) rfl
          have hbl := V1.out.lt
          have d0 := V0.out.cell (i := 0) rfl
          have d1 := V0.out.cell (i := 1) rfl
          have d2 := V0.out.cell (i := 2) rfl
          have d3 := V0.out.cell (i := 3) rfl
          have f0 := V0.out.free 0
          have f1 := V0.out.free 1
          have f2 := V0.out.free 2
          have f3 := V0.out.free 3
          obtain ⟨o0, g0⟩ := V0.out.set 0 (.string (⟨mkB a, ⟨#[]⟩, 0, 0⟩ : Res).a)
          obtain ⟨o1, g1⟩ := o0.set 1 (.string (⟨mkB a, ⟨#[]⟩, 0, 0⟩ : Res).b)
          obtain ⟨o2, g2⟩ := o1.set 2 (.int .i64 (⟨mkB a, ⟨#[]⟩, 0, 0⟩ : Res).sa)
          obtain ⟨o3, g3⟩ := o2.set 3 (.int .i64 (⟨mkB a, ⟨#[]⟩, 0, 0⟩ : Res).sb)
          have GG := grownBy_trans (grownBy_trans (grownBy_trans g0 g1) g2) g3
          have hb9 := hb.trans (below_row2 GG (Nat.le_refl _) hb.size)
          have e0 := o3.cell (i := 0) (v := .string (⟨mkB a, ⟨#[]⟩, 0, 0⟩ : Res).a) rfl
          have e1 := o3.cell (i := 1) (v := .string (⟨mkB a, ⟨#[]⟩, 0, 0⟩ : Res).b) rfl
          have e2 := o3.cell (i := 2) (v := .int .i64 (⟨mkB a, ⟨#[]⟩, 0, 0⟩ : Res).sa) rfl
          have e3 := o3.cell (i := 3) (v := .int .i64 (⟨mkB a, ⟨#[]⟩, 0, 0⟩ : Res).sb) rfl
          clear o0 o1 o2 o3 g0 g1 g2 g3 GG
          go_wp2
          refine bodyPost_ret (v := .tuple #[.agg #[.string (⟨mkB a, ⟨#[]⟩, 0, 0⟩ : Res).a, .string (⟨mkB a, ⟨#[]⟩, 0, 0⟩ : Res).b, .int .i64 (⟨mkB a, ⟨#[]⟩, 0, 0⟩ : Res).sa, .int .i64 (⟨mkB a, ⟨#[]⟩, 0, 0⟩ : Res).sb], .bool true]) (by simp [results, Tryz.results14, go_sem, e0, e1, e2, e3]) rfl ?_
          exact ⟨by rw [HN.out]; rfl, hb9⟩
      · have HN := Lib.hid (specRes_two' HP.out hbye)
        have hq1 : ((mkB x).toList == [98, 121, 101]) = false := by rw [mkB_list]; exact beq_eq_false_iff_ne.2 hbye
        have hq2 : ((mkB x).toList == (⟨#[98, 121, 101]⟩ : ByteArray).toList) = false := by rw [ByteArray.toList_eq ⟨#[98, 121, 101]⟩]; exact hq1
        clear hbye
        go_upto_region 3 with fail
        clear c0
        generalize w2.alloc (.cells #[.string (mkB a), .string ⟨#[]⟩, .int .i64 0, .int .i64 0] 33) = W3 at *
        have d0 := V0.out.cell (i := 0) rfl
        have d1 := V0.out.cell (i := 1) rfl
        have d2 := V0.out.cell (i := 2) rfl
        have d3 := V0.out.cell (i := 3) rfl
        have f0 := V0.out.free 0
        have f1 := V0.out.free 1
        have f2 := V0.out.free 2
        have f3 := V0.out.free 3
        obtain ⟨o0, g0⟩ := V0.out.set 0 (.string (⟨⟨#[]⟩, ⟨#[]⟩, 0, 0⟩ : Res).a)
        obtain ⟨o1, g1⟩ := o0.set 1 (.string (⟨⟨#[]⟩, ⟨#[]⟩, 0, 0⟩ : Res).b)
        obtain ⟨o2, g2⟩ := o1.set 2 (.int .i64 (⟨⟨#[]⟩, ⟨#[]⟩, 0, 0⟩ : Res).sa)
        obtain ⟨o3, g3⟩ := o2.set 3 (.int .i64 (⟨⟨#[]⟩, ⟨#[]⟩, 0, 0⟩ : Res).sb)
        have GG := grownBy_trans (grownBy_trans (grownBy_trans g0 g1) g2) g3
        have hb9 := hb.trans (below_row2 GG (Nat.le_refl _) hb.size)
        have e0 := o3.cell (i := 0) (v := .string (⟨⟨#[]⟩, ⟨#[]⟩, 0, 0⟩ : Res).a) rfl
        have e1 := o3.cell (i := 1) (v := .string (⟨⟨#[]⟩, ⟨#[]⟩, 0, 0⟩ : Res).b) rfl
        have e2 := o3.cell (i := 2) (v := .int .i64 (⟨⟨#[]⟩, ⟨#[]⟩, 0, 0⟩ : Res).sa) rfl
        have e3 := o3.cell (i := 3) (v := .int .i64 (⟨⟨#[]⟩, ⟨#[]⟩, 0, 0⟩ : Res).sb) rfl
        clear o0 o1 o2 o3 g0 g1 g2 g3 GG
        go_wp2
        refine bodyPost_ret (v := .tuple #[.agg #[.string ⟨#[]⟩, .string ⟨#[]⟩, .int .i64 0, .int .i64 0], .bool false]) (by simp [results, Tryz.results14, go_sem, e0, e1, e2, e3]) rfl ?_
        exact ⟨by rw [HN.out]; rfl, hb9⟩
    · by_cases h4 : ((a :: P).map mkB).length = 4
      · obtain ⟨x, b, y, rfl⟩ : ∃ x b y, P = [x, b, y] := by
          match P, h4 with
          | [x, b, y], _ => exact ⟨x, b, y, rfl⟩
          | [], h => simp at h
          | [_], h => simp at h
          | [_, _], h => simp at h
          | _ :: _ :: _ :: _ :: _, h => simp at h
        have k0 := cell_kept c0 hx
        have k1 : (w2.alloc (.cells #[.string (mkB a), .string ⟨#[]⟩, .int .i64 0, .int .i64 0] 33)).cell? ⟨g, 1, none⟩ = some (.string (mkB x)) := cell_kept (c1 (by simp)) hx
        have k2 : (w2.alloc (.cells #[.string (mkB a), .string ⟨#[]⟩, .int .i64 0, .int .i64 0] 33)).cell? ⟨g, 2, none⟩ = some (.string (mkB b)) := cell_kept (c2 (by simp)) hx
        have k3 : (w2.alloc (.cells #[.string (mkB a), .string ⟨#[]⟩, .int .i64 0, .int .i64 0] 33)).cell? ⟨g, 3, none⟩ = some (.string (mkB y)) := cell_kept (c3 (by simp)) hx
        have hfx := HLE.out x (by simp)
        have hfb := HLE.out b (by simp)
        have hfy := HLE.out y (by simp)
        clear c1 c2 c3 ho h2 h4 hx
        by_cases hbe : b = []
        · subst hbe
          have HN := Lib.hid (specRes_four' HP.out)
          have k2' : (w2.alloc (.cells #[.string (mkB a), .string ⟨#[]⟩, .int .i64 0, .int .i64 0] 33)).cell? ⟨g, 2, none⟩ = some (.string ⟨#[]⟩) := k2
          clear k2
          go_upto_region 3 with fail
          clear c0 k0 k1 k2' k3
          generalize w2.alloc (.cells #[.string (mkB a), .string ⟨#[]⟩, .int .i64 0, .int .i64 0] 33) = W3 at *
          have d0 := V0.out.cell (i := 0) rfl
          have d1 := V0.out.cell (i := 1) rfl
          have d2 := V0.out.cell (i := 2) rfl
          have d3 := V0.out.cell (i := 3) rfl
          have f0 := V0.out.free 0
          have f1 := V0.out.free 1
          have f2 := V0.out.free 2
          have f3 := V0.out.free 3
          obtain ⟨o0, g0⟩ := V0.out.set 0 (.string (⟨⟨#[]⟩, ⟨#[]⟩, 0, 0⟩ : Res).a)
          obtain ⟨o1, g1⟩ := o0.set 1 (.string (⟨⟨#[]⟩, ⟨#[]⟩, 0, 0⟩ : Res).b)
          obtain ⟨o2, g2⟩ := o1.set 2 (.int .i64 (⟨⟨#[]⟩, ⟨#[]⟩, 0, 0⟩ : Res).sa)
          obtain ⟨o3, g3⟩ := o2.set 3 (.int .i64 (⟨⟨#[]⟩, ⟨#[]⟩, 0, 0⟩ : Res).sb)
          have GG := grownBy_trans (grownBy_trans (grownBy_trans g0 g1) g2) g3
          have hb9 := hb.trans (below_row2 GG (Nat.le_refl _) hb.size)
          have e0 := o3.cell (i := 0) (v := .string (⟨⟨#[]⟩, ⟨#[]⟩, 0, 0⟩ : Res).a) rfl
          have e1 := o3.cell (i := 1) (v := .string (⟨⟨#[]⟩, ⟨#[]⟩, 0, 0⟩ : Res).b) rfl
          have e2 := o3.cell (i := 2) (v := .int .i64 (⟨⟨#[]⟩, ⟨#[]⟩, 0, 0⟩ : Res).sa) rfl
          have e3 := o3.cell (i := 3) (v := .int .i64 (⟨⟨#[]⟩, ⟨#[]⟩, 0, 0⟩ : Res).sb) rfl
          clear o0 o1 o2 o3 g0 g1 g2 g3 GG
          go_wp2
          refine bodyPost_ret (v := .tuple #[.agg #[.string ⟨#[]⟩, .string ⟨#[]⟩, .int .i64 0, .int .i64 0], .bool false]) (by simp [results, Tryz.results14, go_sem, e0, e1, e2, e3]) rfl ?_
          exact ⟨by rw [HN.out]; rfl, hb9⟩
        · have HS4 := Lib.hid (specRes_four HP.out hbe)
          have hbe2 : (mkB b).toList.isEmpty = false := by
            rw [mkB_list]
            cases b with
            | nil => exact absurd rfl hbe
            | cons c b => rfl
          have HX : Hid (∀ W, Calls Tryz.prog 38 #[.string (mkB x)] W (NumPost (specNum x) W)) := Lib.hid (fun W => by have := l01Number_any (mkB x) W hfx; rw [mkB_data] at this; exact this)
          have HY : Hid (∀ W, Calls Tryz.prog 38 #[.string (mkB y)] W (NumPost (specNum y) W)) := Lib.hid (fun W => by have := l01Number_any (mkB y) W hfy; rw [mkB_data] at this; exact this)
          generalize specNum x = ox at *
          generalize specNum y = oy at *
          go_upto_region 6 with fail
          clear c0
          generalize w2.alloc (.cells #[.string (mkB a), .string ⟨#[]⟩, .int .i64 0, .int .i64 0] 33) = W3 at *
          generalize w2.heap.size = B1 at *
          go_wp2_with fail
          refine (HX.out _).mono ?_
          rintro e w4 ⟨rfl, hd⟩
          replace V0 := Lib.hid (V0.out.kept hd)
          replace V1 := Lib.hid (V1.out.kept hd)
          replace hb := hb.trans (hd.mono hb.size)
          replace k0 := cell_kept k0 hd
          replace k2 := cell_kept k2 hd
          replace k3 := cell_kept k3 hd
          clear hd k1
          go_wp2_with fail
          refine (HY.out _).mono ?_
          rintro e w5 ⟨rfl, hd⟩
          replace V0 := Lib.hid (V0.out.kept hd)
          replace V1 := Lib.hid (V1.out.kept hd)
          replace hb := hb.trans (hd.mono hb.size)
          replace k0 := cell_kept k0 hd
          replace k2 := cell_kept k2 hd
          clear hd k3 HX HY
          cases ox with
          | none =>
            have HN : Hid (specRes s.data.toList = none) := Lib.hid (by rw [HS4.out])
            clear k0 k2
            have d0 := V0.out.cell (i := 0) rfl
            have d1 := V0.out.cell (i := 1) rfl
            have d2 := V0.out.cell (i := 2) rfl
            have d3 := V0.out.cell (i := 3) rfl
            have f0 := V0.out.free 0
            have f1 := V0.out.free 1
            have f2 := V0.out.free 2
            have f3 := V0.out.free 3
            obtain ⟨o0, g0⟩ := V0.out.set 0 (.string (⟨⟨#[]⟩, ⟨#[]⟩, 0, 0⟩ : Res).a)
            obtain ⟨o1, g1⟩ := o0.set 1 (.string (⟨⟨#[]⟩, ⟨#[]⟩, 0, 0⟩ : Res).b)
            obtain ⟨o2, g2⟩ := o1.set 2 (.int .i64 (⟨⟨#[]⟩, ⟨#[]⟩, 0, 0⟩ : Res).sa)
            obtain ⟨o3, g3⟩ := o2.set 3 (.int .i64 (⟨⟨#[]⟩, ⟨#[]⟩, 0, 0⟩ : Res).sb)
            have GG := grownBy_trans (grownBy_trans (grownBy_trans g0 g1) g2) g3
            have hb9 := hb.trans (below_row2 GG (Nat.le_refl _) hb.size)
            have e0 := o3.cell (i := 0) (v := .string (⟨⟨#[]⟩, ⟨#[]⟩, 0, 0⟩ : Res).a) rfl
            have e1 := o3.cell (i := 1) (v := .string (⟨⟨#[]⟩, ⟨#[]⟩, 0, 0⟩ : Res).b) rfl
            have e2 := o3.cell (i := 2) (v := .int .i64 (⟨⟨#[]⟩, ⟨#[]⟩, 0, 0⟩ : Res).sa) rfl
            have e3 := o3.cell (i := 3) (v := .int .i64 (⟨⟨#[]⟩, ⟨#[]⟩, 0, 0⟩ : Res).sb) rfl
            clear o0 o1 o2 o3 g0 g1 g2 g3 GG
            go_wp2
            refine bodyPost_ret (v := .tuple #[.agg #[.string ⟨#[]⟩, .string ⟨#[]⟩, .int .i64 0, .int .i64 0], .bool false]) (by simp [results, Tryz.results14, go_sem, e0, e1, e2, e3]) rfl ?_
            exact ⟨by rw [HN.out]; rfl, hb9⟩
          | some m =>
            cases oy with
            | none =>
              have HN : Hid (specRes s.data.toList = none) := Lib.hid (by rw [HS4.out])
              clear k0 k2
              have d0 := V0.out.cell (i := 0) rfl
              have d1 := V0.out.cell (i := 1) rfl
              have d2 := V0.out.cell (i := 2) rfl
              have d3 := V0.out.cell (i := 3) rfl
              have f0 := V0.out.free 0
              have f1 := V0.out.free 1
              have f2 := V0.out.free 2
              have f3 := V0.out.free 3
              obtain ⟨o0, g0⟩ := V0.out.set 0 (.string (⟨⟨#[]⟩, ⟨#[]⟩, 0, 0⟩ : Res).a)
              obtain ⟨o1, g1⟩ := o0.set 1 (.string (⟨⟨#[]⟩, ⟨#[]⟩, 0, 0⟩ : Res).b)
              obtain ⟨o2, g2⟩ := o1.set 2 (.int .i64 (⟨⟨#[]⟩, ⟨#[]⟩, 0, 0⟩ : Res).sa)
              obtain ⟨o3, g3⟩ := o2.set 3 (.int .i64 (⟨⟨#[]⟩, ⟨#[]⟩, 0, 0⟩ : Res).sb)
              have GG := grownBy_trans (grownBy_trans (grownBy_trans g0 g1) g2) g3
              have hb9 := hb.trans (below_row2 GG (Nat.le_refl _) hb.size)
              have e0 := o3.cell (i := 0) (v := .string (⟨⟨#[]⟩, ⟨#[]⟩, 0, 0⟩ : Res).a) rfl
              have e1 := o3.cell (i := 1) (v := .string (⟨⟨#[]⟩, ⟨#[]⟩, 0, 0⟩ : Res).b) rfl
              have e2 := o3.cell (i := 2) (v := .int .i64 (⟨⟨#[]⟩, ⟨#[]⟩, 0, 0⟩ : Res).sa) rfl
              have e3 := o3.cell (i := 3) (v := .int .i64 (⟨⟨#[]⟩, ⟨#[]⟩, 0, 0⟩ : Res).sb) rfl
              clear o0 o1 o2 o3 g0 g1 g2 g3 GG
              go_wp2
              refine bodyPost_ret (v := .tuple #[.agg #[.string ⟨#[]⟩, .string ⟨#[]⟩, .int .i64 0, .int .i64 0], .bool false]) (by simp [results, Tryz.results14, go_sem, e0, e1, e2, e3]) rfl ?_
              exact ⟨by rw [HN.out]; rfl, hb9⟩
            | some n =>
              have HS : Hid (specRes s.data.toList = okRes ⟨mkB a, mkB b, m, n⟩) := Lib.hid (by rw [HS4.out])
              simp only [Option.getD_some, Option.isSome_some]
              replace HFT : Hid (Res.fit ⟨mkB a, mkB b, m, n⟩) := Lib.hid ⟨by show (mkB a).size ≤ _; omega, by show (mkB b).size ≤ _; omega⟩
              go_upto_region 10 with fail
              have V0d : Hid (VarAt w5.drew w.heap.size 33 [.string ⟨#[]⟩, .string ⟨#[]⟩, .int .i64 0, .int .i64 0]) := Lib.hid V0.out
              have V1d : Hid (VarAt w5.drew B1 33 [.string (mkB a), .string ⟨#[]⟩, .int .i64 0, .int .i64 0]) := Lib.hid V1.out
              have hbd : Below w.heap.size w w5.drew := hb.drew
              have k0d : w5.drew.cell? ⟨g, 0, none⟩ = some (.string (mkB a)) := k0
              have k2d : w5.drew.cell? ⟨g, 2, none⟩ = some (.string (mkB b)) := k2
              clear V0 V1 hb k0 k2
              refine wp_region_still_tail 9 (by kernel_rfl) (by kernel_rfl) ?_
              simp only [List.take_succ_cons, List.take_zero, List.drop_succ_cons, List.drop_zero]
              change wpStill _ _ w5.drew (fun a' => wpList _ _ _ _ a' w5.drew) _ _
              generalize w5.drew = wd at *
              repeat still_step
              refine wpStill_nil ?_
              have q0 := V1d.out.cell (i := 0) rfl
              have q1 := V1d.out.cell (i := 1) rfl
              have q2 := V1d.out.cell (i := 2) rfl
              have q3 := V1d.out.cell (i := 3) rfl
              have p0 := V1d.out.free 0
              have p1 := V1d.out.free 1
              have p2 := V1d.out.free 2
              have p3 := V1d.out.free 3
              obtain ⟨o0, g0⟩ := V1d.out.set 0 (.string (mkB a))
              obtain ⟨o1, g1⟩ := o0.set 1 (.string (mkB b))
              obtain ⟨o2, g2⟩ := o1.set 2 (.int .i64 m)
              obtain ⟨o3, g3⟩ := o2.set 3 (.int .i64 n)
              have GG := grownBy_trans (grownBy_trans (grownBy_trans g0 g1) g2) g3
              have V0 := Lib.hid (V0d.out.grown GG (by simp; omega))
              have V1 := Lib.hid (o3.as (show _ = [.string (mkB a), .string (mkB b), .int .i64 m, .int .i64 n] from rfl))
              have hb := hbd.trans (below_row2 GG (by omega) hbd.size)
              clear o0 o1 o2 o3 g0 g1 g2 g3 GG k0d k2d V0d V1d
              go_upto_region 11 with fail
              clear q0 q1 q2 q3 p0 p1 p2 p3 hbd
              generalize (((wd.setCell ⟨B1, 0, none⟩ (.string (mkB a))).setCell ⟨B1, 1, none⟩ (.string (mkB b))).setCell ⟨B1, 2, none⟩ (.int .i64 m)).setCell ⟨B1, 3, none⟩ (.int .i64 n) = W7 at *
              have c0 := V1.out.cell (i := 0) (v := .string (⟨mkB a, mkB b, m, n⟩ : Res).a) rfl
              have c1 := V1.out.cell (i := 1) (v := .string (⟨mkB a, mkB b, m, n⟩ : Res).b) rfl
              have c2 := V1.out.cell (i := 2) (v := .int .i64 (⟨mkB a, mkB b, m, n⟩ : Res).sa) rfl
              have c3 := V1.out.cell (i := 3) (v := .int .i64 (⟨mkB a, mkB b, m, n⟩ : Res).sb) rfl
              have HRA : Hid (ResAt W7 B1 0 (⟨mkB a, mkB b, m, n⟩ : Res)) := Lib.hid ⟨c0, by rw [Nat.zero_add]; exact c1, by rw [Nat.zero_add]; exact c2, by rw [Nat.zero_add]; exact c3⟩
              cases hok : resOk (⟨mkB a, mkB b, m, n⟩ : Res) with
              | false =>
                have HN : Hid (specRes s.data.toList = none) := Lib.hid (by rw [HS.out]; exact if_neg (by rw [hok]; exact Bool.false_ne_true))
                go_wp2_with fail
                refine (l26Result_any B1 0 (⟨mkB a, mkB b, m, n⟩ : Res) _ HRA.out HFT.out).mono ?_
                rintro e w5 ⟨rfl, hdd⟩
                rw [hok]
                have hd := hdd.below (W7).heap.size
                replace V0 := Lib.hid (V0.out.kept hd)
                replace hb := hb.trans (hd.mono hb.size)
                clear hok hdd hd c0 c1 c2 c3 HRA V1
                have d0 := V0.out.cell (i := 0) rfl
                have d1 := V0.out.cell (i := 1) rfl
                have d2 := V0.out.cell (i := 2) rfl
                have d3 := V0.out.cell (i := 3) rfl
                have f0 := V0.out.free 0
                have f1 := V0.out.free 1
                have f2 := V0.out.free 2
                have f3 := V0.out.free 3
                obtain ⟨o0, g0⟩ := V0.out.set 0 (.string (⟨⟨#[]⟩, ⟨#[]⟩, 0, 0⟩ : Res).a)
                obtain ⟨o1, g1⟩ := o0.set 1 (.string (⟨⟨#[]⟩, ⟨#[]⟩, 0, 0⟩ : Res).b)
                obtain ⟨o2, g2⟩ := o1.set 2 (.int .i64 (⟨⟨#[]⟩, ⟨#[]⟩, 0, 0⟩ : Res).sa)
                obtain ⟨o3, g3⟩ := o2.set 3 (.int .i64 (⟨⟨#[]⟩, ⟨#[]⟩, 0, 0⟩ : Res).sb)
                have GG := grownBy_trans (grownBy_trans (grownBy_trans g0 g1) g2) g3
                have hb9 := hb.trans (below_row2 GG (Nat.le_refl _) hb.size)
                have e0 := o3.cell (i := 0) (v := .string (⟨⟨#[]⟩, ⟨#[]⟩, 0, 0⟩ : Res).a) rfl
                have e1 := o3.cell (i := 1) (v := .string (⟨⟨#[]⟩, ⟨#[]⟩, 0, 0⟩ : Res).b) rfl
                have e2 := o3.cell (i := 2) (v := .int .i64 (⟨⟨#[]⟩, ⟨#[]⟩, 0, 0⟩ : Res).sa) rfl
                have e3 := o3.cell (i := 3) (v := .int .i64 (⟨⟨#[]⟩, ⟨#[]⟩, 0, 0⟩ : Res).sb) rfl
                clear o0 o1 o2 o3 g0 g1 g2 g3 GG
                go_wp2
                refine bodyPost_ret (v := .tuple #[.agg #[.string ⟨#[]⟩, .string ⟨#[]⟩, .int .i64 0, .int .i64 0], .bool false]) (by simp [results, Tryz.results14, go_sem, e0, e1, e2, e3]) rfl ?_
                exact ⟨by rw [HN.out]; rfl, hb9⟩
              | true =>
                have HN : Hid (specRes s.data.toList = some (⟨mkB a, mkB b, m, n⟩ : Res)) := Lib.hid (by rw [HS.out]; exact if_pos hok)
                go_wp2_with fail
                refine (l26Result_any B1 0 (⟨mkB a, mkB b, m, n⟩ : Res) _ HRA.out HFT.out).mono ?_
                rintro e w5 ⟨rfl, hdd⟩
                rw [hok]
                have hd := hdd.below (W7).heap.size
                replace V0 := Lib.hid (V0.out.kept hd)
                replace V1 := Lib.hid (V1.out.kept hd)
                replace hb := hb.trans (hd.mono hb.size)
                clear hok hdd hd c0 c1 c2 c3 HRA
                have c0 := V1.out.cell (i := 0) (v := .string (⟨mkB a, mkB b, m, n⟩ : Res).a) rfl
                have c1 := V1.out.cell (i := 1) (v := .string (⟨mkB a, mkB b, m, n⟩ : Res).b) rfl
                have c2 := V1.out.cell (i := 2) (v := .int .i64 (⟨mkB a, mkB b, m, n⟩ : Res).sa) rfl
                have c3 := V1.out.cell (i := 3) (v := .int .i64 (⟨mkB a, mkB b, m, n⟩ : Res).sb) rfl
                have hbl := V1.out.lt
                have d0 := V0.out.cell (i := 0) rfl
                have d1 := V0.out.cell (i := 1) rfl
                have d2 := V0.out.cell (i := 2) rfl
                have d3 := V0.out.cell (i := 3) rfl
                have f0 := V0.out.free 0
                have f1 := V0.out.free 1
                have f2 := V0.out.free 2
                have f3 := V0.out.free 3
                obtain ⟨o0, g0⟩ := V0.out.set 0 (.string (⟨mkB a, mkB b, m, n⟩ : Res).a)
                obtain ⟨o1, g1⟩ := o0.set 1 (.string (⟨mkB a, mkB b, m, n⟩ : Res).b)
                obtain ⟨o2, g2⟩ := o1.set 2 (.int .i64 (⟨mkB a, mkB b, m, n⟩ : Res).sa)
                obtain ⟨o3, g3⟩ := o2.set 3 (.int .i64 (⟨mkB a, mkB b, m, n⟩ : Res).sb)
                have GG := grownBy_trans (grownBy_trans (grownBy_trans g0 g1) g2) g3
                have hb9 := hb.trans (below_row2 GG (Nat.le_refl _) hb.size)
                have e0 := o3.cell (i := 0) (v := .string (⟨mkB a, mkB b, m, n⟩ : Res).a) rfl
                have e1 := o3.cell (i := 1) (v := .string (⟨mkB a, mkB b, m, n⟩ : Res).b) rfl
                have e2 := o3.cell (i := 2) (v := .int .i64 (⟨mkB a, mkB b, m, n⟩ : Res).sa) rfl
                have e3 := o3.cell (i := 3) (v := .int .i64 (⟨mkB a, mkB b, m, n⟩ : Res).sb) rfl
                clear o0 o1 o2 o3 g0 g1 g2 g3 GG
                go_wp2
                refine bodyPost_ret (v := .tuple #[.agg #[.string (⟨mkB a, mkB b, m, n⟩ : Res).a, .string (⟨mkB a, mkB b, m, n⟩ : Res).b, .int .i64 (⟨mkB a, mkB b, m, n⟩ : Res).sa, .int .i64 (⟨mkB a, mkB b, m, n⟩ : Res).sb], .bool true]) (by simp [results, Tryz.results14, go_sem, e0, e1, e2, e3]) rfl ?_
                exact ⟨by rw [HN.out]; rfl, hb9⟩
      · have h2' : ((((a :: P).map mkB).length : Int) == 2) = false := beq_eq_false_iff_ne.2 (by omega)
        have h4' : ((((a :: P).map mkB).length : Int) == 4) = false := beq_eq_false_iff_ne.2 (by omega)
        have hn0 : 0 < ((a :: P).map mkB).length := by simp
        have HN := Lib.hid (specRes_other (l := s.data.toList) (by rw [HP.out]; simpa using h2) (by rw [HP.out]; simpa using h4))
        clear c1 c2 c3 ho h2 h4 hx
        generalize ((a :: P).map mkB).length = n at *
        go_upto_region 3 with fail
        clear c0
        generalize w2.alloc (.cells #[.string (mkB a), .string ⟨#[]⟩, .int .i64 0, .int .i64 0] 33) = W3 at *
        have d0 := V0.out.cell (i := 0) rfl
        have d1 := V0.out.cell (i := 1) rfl
        have d2 := V0.out.cell (i := 2) rfl
        have d3 := V0.out.cell (i := 3) rfl
        have f0 := V0.out.free 0
        have f1 := V0.out.free 1
        have f2 := V0.out.free 2
        have f3 := V0.out.free 3
        obtain ⟨o0, g0⟩ := V0.out.set 0 (.string (⟨⟨#[]⟩, ⟨#[]⟩, 0, 0⟩ : Res).a)
        obtain ⟨o1, g1⟩ := o0.set 1 (.string (⟨⟨#[]⟩, ⟨#[]⟩, 0, 0⟩ : Res).b)
        obtain ⟨o2, g2⟩ := o1.set 2 (.int .i64 (⟨⟨#[]⟩, ⟨#[]⟩, 0, 0⟩ : Res).sa)
        obtain ⟨o3, g3⟩ := o2.set 3 (.int .i64 (⟨⟨#[]⟩, ⟨#[]⟩, 0, 0⟩ : Res).sb)
        have GG := grownBy_trans (grownBy_trans (grownBy_trans g0 g1) g2) g3
        have hb9 := hb.trans (below_row2 GG (Nat.le_refl _) hb.size)
        have e0 := o3.cell (i := 0) (v := .string (⟨⟨#[]⟩, ⟨#[]⟩, 0, 0⟩ : Res).a) rfl
        have e1 := o3.cell (i := 1) (v := .string (⟨⟨#[]⟩, ⟨#[]⟩, 0, 0⟩ : Res).b) rfl
        have e2 := o3.cell (i := 2) (v := .int .i64 (⟨⟨#[]⟩, ⟨#[]⟩, 0, 0⟩ : Res).sa) rfl
        have e3 := o3.cell (i := 3) (v := .int .i64 (⟨⟨#[]⟩, ⟨#[]⟩, 0, 0⟩ : Res).sb) rfl
        clear o0 o1 o2 o3 g0 g1 g2 g3 GG
        go_wp2
        refine bodyPost_ret (v := .tuple #[.agg #[.string ⟨#[]⟩, .string ⟨#[]⟩, .int .i64 0, .int .i64 0], .bool false]) (by simp [results, Tryz.results14, go_sem, e0, e1, e2, e3]) rfl ?_
        exact ⟨by rw [HN.out]; rfl, hb9⟩
end Go.Proofs.YtlbnjdgfggiifaaGreatDoor
