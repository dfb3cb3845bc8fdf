/- Contract: the reference's draw of two plays. Nothing is said of them but that their words are short. -/
import Derived.Test.YtjdcdhhbgijaoaaGreatDoorDbP
import Derived.Test.YtjdcdhhbgijaoaaGreatDoorDbQ
import Derived.Deep.DeepCutAuto
import Derived.Deep.CutBlock
namespace Go.Proofs.YtjdcdhhbgijaoaaGreatDoor
open Go.ChangeShapes Go.WideShapes Go.ChangeAt Go.RowKit Go.Sort

/-- two plays that were drawn -/
def TwoOut (w : World) (e : Ending) (w' : World) : Prop :=
  ∃ p q : Ply, p.word.size ≤ 21 ∧ q.word.size ≤ 21 ∧ e = .returned (.tuple #[.agg #[.int .i64 p.row, .int .i64 p.col, .bool p.down, .string p.word], .agg #[.int .i64 q.row, .int .i64 q.col, .bool q.down, .string q.word]]) ∧ Below w.heap.size w w'
set_option maxRecDepth 100000 in
set_option maxHeartbeats 8000000 in
theorem DrawComparePlays_any (ca : Option Addr) (ccap : Nat) (bs : List Int) (w : World) (hc : CodeAt w w.heap.size ca bs) : Calls Tryz.prog 54 #[.slice ca bs.length ccap] w (TwoOut w) := by
  obtain ⟨w1, hw1⟩ : ∃ w1, w1 = (w.alloc (.cells #[.int .i64 0, .int .i64 0, .bool false, .string ⟨#[]⟩] 30)).alloc (.cells #[.int .i64 0, .int .i64 0, .bool false, .string ⟨#[]⟩] 30) := ⟨_, rfl⟩
  have hb : Below w.heap.size w w1 := by rw [hw1]; exact ((Below.refl _ _).alloc (Nat.le_refl _) _).alloc (by simp) _
  have hz1 : w1.heap.size = w.heap.size + 1 + 1 := by rw [hw1]; simp
  have V2 : Hid (VarAt w1 w.heap.size 30 [.int .i64 0, .int .i64 0, .bool false, .string ⟨#[]⟩]) := by
    rw [hw1]
    exact Lib.hid ((VarAt.new w 30 [.int .i64 0, .int .i64 0, .bool false, .string ⟨#[]⟩]).kept ((Below.refl _ _).alloc (Nat.le_refl _) _))
  have V3 : Hid (VarAt w1 (w.heap.size + 1) 30 [.int .i64 0, .int .i64 0, .bool false, .string ⟨#[]⟩]) := by
    rw [hw1]
    have := VarAt.new (w.alloc (.cells #[.int .i64 0, .int .i64 0, .bool false, .string ⟨#[]⟩] 30)) 30 [.int .i64 0, .int .i64 0, .bool false, .string ⟨#[]⟩]
    simp only [World.size_alloc] at this
    exact Lib.hid this
  have HC : Hid (CodeAt w1 w1.heap.size ca bs) := by
    obtain ⟨c1, c2, c3, c4⟩ := hc
    exact Lib.hid ⟨c1.kept hb, c2, c3, fun h0 cb co e => by have := c4 h0 cb co e; omega⟩
  have HW1 := Lib.hid hw1
  clear hc hw1
  go_enter Tryz.func54, Tryz.ntmps54
  go_upto_region 1 with fail
  rw [← HW1.out]
  clear HW1
  have HZ1 := Lib.hid hz1
  clear hz1
  go_wp2_with fail
  refine (l00From_any ca ccap bs _ HC.out).mono ?_
  rintro e w2 ⟨rfl, h2, s2, hz2⟩
  have hz1 := HZ1.out
  have HS := Lib.hid s2
  replace V2 := Lib.hid (V2.out.kept h2)
  replace V3 := Lib.hid (V3.out.kept h2)
  replace hb := hb.trans (h2.mono hb.size)
  have hz3 : w1.heap.size + 1 ≤ w2.heap.size := by omega
  have hz4 : w.heap.size + 1 < w1.heap.size := by omega
  generalize w1.heap.size = B1 at *
  clear h2 s2 HC hz1 HZ1 hz2
  go_wp2_with fail
  refine (l11Draw_any (B1 + 1) B1 0 _ HS.out (by omega) hz3).mono ?_
  rintro e w3 ⟨n, ⟨bz, P, C⟩, hgd, h9, rfl, s3, g3⟩
  obtain rfl : bz = (n : Int) := hgd.size
  have hz5 : B1 + 1 ≤ w3.heap.size := by have := g3.size; omega
  replace HS := Lib.hid s3
  replace hb := hb.grown g3 hb.size (fun q h => by cases h; omega)
  replace V2 := Lib.hid (V2.out.grown g3 (by simp; omega))
  replace V3 := Lib.hid (V3.out.grown g3 (by simp; omega))
  have HGD := Lib.hid hgd
  clear s3 g3 hgd hz3
  simp only
  have hx : Below w3.heap.size w3 (w3.alloc (.cells #[.int .i64 (n : Int), .string P, .string C] 25)) := (Below.refl _ _).alloc (Nat.le_refl _) _
  have V5 := Lib.hid (VarAt.new w3 25 [.int .i64 (n : Int), .string P, .string C])
  have hz6 : w3.heap.size < (w3.alloc (.cells #[.int .i64 (n : Int), .string P, .string C] 25)).heap.size := by simp
  replace HS := Lib.hid (HS.out.kept hx)
  replace hb := hb.trans ((hx).mono hb.size)
  replace V2 := Lib.hid (V2.out.kept hx)
  replace V3 := Lib.hid (V3.out.kept hx)
  clear hx
  go_upto_region 3 with fail
  generalize w3.alloc (.cells #[.int .i64 (n : Int), .string P, .string C] 25) = w4 at *
  generalize w3.heap.size = B5 at *
  go_wp2_with fail
  refine (l12Some_any P C n B5 (B1 + 1) B1 _ _ HGD.out h9 (bat_of V5.out) (by omega) HS.out (by omega) (by omega)).mono ?_
  rintro e w5 ⟨⟨R, Q, D, Wd⟩, hW, rfl, s5, g5⟩
  have hz7 : B5 < w5.heap.size := by have := g5.size; omega
  replace hW : Wd.size ≤ 20 := hW
  replace HS := Lib.hid s5
  replace hb := hb.grown g5 hb.size (fun q h => by cases h; omega)
  replace V2 := Lib.hid (V2.out.grown g5 (by simp; omega))
  replace V3 := Lib.hid (V3.out.grown g5 (by simp; omega))
  replace V5 := Lib.hid (V5.out.grown g5 (by simp; omega))
  clear s5 g5 hz6
  simp only
  have hx : Below w5.heap.size w5 (w5.alloc (.cells #[.int .i64 R, .int .i64 Q, .bool D, .string Wd] 30)) := (Below.refl _ _).alloc (Nat.le_refl _) _
  have V6 := Lib.hid (VarAt.new w5 30 [.int .i64 R, .int .i64 Q, .bool D, .string Wd])
  replace V5 := Lib.hid (V5.out.kept hx)
  replace HS := Lib.hid (HS.out.kept hx)
  replace hb := hb.trans ((hx).mono hb.size)
  replace V2 := Lib.hid (V2.out.kept hx)
  replace V3 := Lib.hid (V3.out.kept hx)
  clear hx
  go_upto_region 4 with fail
  have hz8 : w5.heap.size < (w5.alloc (.cells #[.int .i64 R, .int .i64 Q, .bool D, .string Wd] 30)).heap.size := by simp
  generalize w5.alloc (.cells #[.int .i64 R, .int .i64 Q, .bool D, .string Wd] 30) = w6 at *
  generalize w5.heap.size = B6 at *
  have d0 := V6.out.cell (i := 0) rfl
  have d1 := V6.out.cell (i := 1) rfl
  have d2 := V6.out.cell (i := 2) rfl
  have d3 := V6.out.cell (i := 3) rfl
  go_upto_region 5 with fail
  clear d0 d1 d2 d3
  have hx : Below w6.heap.size w6 (w6.alloc (.cells #[.int .i64 R, .int .i64 Q, .bool D, .string Wd] 30)) := (Below.refl _ _).alloc (Nat.le_refl _) _
  have V7 := Lib.hid (VarAt.new w6 30 [.int .i64 R, .int .i64 Q, .bool D, .string Wd])
  replace V5 := Lib.hid (V5.out.kept hx)
  replace V6 := Lib.hid (V6.out.kept hx)
  replace HS := Lib.hid (HS.out.kept hx)
  replace hb := hb.trans ((hx).mono hb.size)
  replace V2 := Lib.hid (V2.out.kept hx)
  replace V3 := Lib.hid (V3.out.kept hx)
  clear hx
  generalize w6.alloc (.cells #[.int .i64 R, .int .i64 Q, .bool D, .string Wd] 30) = w7 at *
  generalize w6.heap.size = B7 at *
  have hlt7 := V7.out.lt
  go_wp2_with fail
  refine (pick_any 6 (B1 + 1) B1 _ _ HS.out (by omega)).mono ?_
  rintro e w8 ⟨x, ⟨x0, x1, _, _⟩, rfl, s8, g8⟩
  have hz9 : B7 < w8.heap.size := by have := g8.size; omega
  replace HS := Lib.hid s8
  replace hb := hb.grown g8 hb.size (fun q h => by cases h; omega)
  replace V2 := Lib.hid (V2.out.grown g8 (by simp; omega))
  replace V3 := Lib.hid (V3.out.grown g8 (by simp; omega))
  replace V5 := Lib.hid (V5.out.grown g8 (by simp; omega))
  replace V6 := Lib.hid (V6.out.grown g8 (by simp; omega))
  replace V7 := Lib.hid (V7.out.grown g8 (by simp; omega))
  clear s8 g8 x1 hlt7
  go_upto_block 0 with fail
  go_cut [] (fun wx => ∃ (R' Q' : Int) (D' : Bool) (W' : ByteArray), W'.size ≤ 21 ∧ Hid (VarAt wx w.heap.size 30 [.int .i64 0, .int .i64 0, .bool false, .string ⟨#[]⟩]) ∧ Hid (VarAt wx (w.heap.size + 1) 30 [.int .i64 0, .int .i64 0, .bool false, .string ⟨#[]⟩]) ∧ Hid (VarAt wx B6 30 [.int .i64 R, .int .i64 Q, .bool D, .string Wd]) ∧ Hid (VarAt wx B7 30 [.int .i64 R', .int .i64 Q', .bool D', .string W']) ∧ Below w.heap.size w wx)
  case first =>
    by_cases h0 : x = 0
    · subst h0
      have y0 := V7.out.cell (i := 0) rfl
      have g0 := V7.out.free 0
      obtain ⟨o9, k9⟩ := V7.out.set 0 (.int .i64 (wrap64 (R + 1)))
      replace HS := Lib.hid (HS.out.grown k9 (fun g e => by simp at e; omega))
      replace hb := hb.grown k9 hb.size (fun q h => by cases h; omega)
      replace V2 := Lib.hid (V2.out.grown k9 (by simp; omega))
      replace V3 := Lib.hid (V3.out.grown k9 (by simp; omega))
      replace V5 := Lib.hid (V5.out.grown k9 (by simp; omega))
      replace V6 := Lib.hid (V6.out.grown k9 (by simp; omega))
      replace V7 := Lib.hid o9
      clear o9 k9
      go_wp2_with fail
      go_meet
      exact ⟨wrap64 (R + 1), Q, D, Wd, (by omega), V2, V3, V6, V7, hb⟩
    by_cases h1 : x = 1
    · subst h1
      have y0 := V7.out.cell (i := 1) rfl
      have g0 := V7.out.free 1
      obtain ⟨o9, k9⟩ := V7.out.set 1 (.int .i64 (wrap64 (Q + 1)))
      replace HS := Lib.hid (HS.out.grown k9 (fun g e => by simp at e; omega))
      replace hb := hb.grown k9 hb.size (fun q h => by cases h; omega)
      replace V2 := Lib.hid (V2.out.grown k9 (by simp; omega))
      replace V3 := Lib.hid (V3.out.grown k9 (by simp; omega))
      replace V5 := Lib.hid (V5.out.grown k9 (by simp; omega))
      replace V6 := Lib.hid (V6.out.grown k9 (by simp; omega))
      replace V7 := Lib.hid o9
      clear o9 k9
      go_wp2_with fail
      go_meet
      exact ⟨R, wrap64 (Q + 1), D, Wd, (by omega), V2, V3, V6, V7, hb⟩
    by_cases h2 : x = 2
    · subst h2
      have y0 := V7.out.cell (i := 2) rfl
      have g0 := V7.out.free 2
      obtain ⟨o9, k9⟩ := V7.out.set 2 (.bool (!D))
      replace HS := Lib.hid (HS.out.grown k9 (fun g e => by simp at e; omega))
      replace hb := hb.grown k9 hb.size (fun q h => by cases h; omega)
      replace V2 := Lib.hid (V2.out.grown k9 (by simp; omega))
      replace V3 := Lib.hid (V3.out.grown k9 (by simp; omega))
      replace V5 := Lib.hid (V5.out.grown k9 (by simp; omega))
      replace V6 := Lib.hid (V6.out.grown k9 (by simp; omega))
      replace V7 := Lib.hid o9
      clear o9 k9
      go_wp2_with fail
      go_meet
      exact ⟨R, Q, !D, Wd, (by omega), V2, V3, V6, V7, hb⟩
    by_cases h3 : x = 3
    · subst h3
      have hsz : (Wd ++ ⟨#[115]⟩).size ≤ 21 := by rw [ByteArray.size_append]; exact Nat.add_le_add hW (show (⟨#[115]⟩ : ByteArray).size ≤ 1 by decide)
      have hsz2 : Wd.size + 1 ≤ 9223372036854775807 := by omega
      have y0 := V7.out.cell (i := 3) rfl
      have g0 := V7.out.free 3
      obtain ⟨o9, k9⟩ := V7.out.set 3 (.string (Wd ++ ⟨#[115]⟩))
      replace HS := Lib.hid (HS.out.grown k9 (fun g e => by simp at e; omega))
      replace hb := hb.grown k9 hb.size (fun q h => by cases h; omega)
      replace V2 := Lib.hid (V2.out.grown k9 (by simp; omega))
      replace V3 := Lib.hid (V3.out.grown k9 (by simp; omega))
      replace V5 := Lib.hid (V5.out.grown k9 (by simp; omega))
      replace V6 := Lib.hid (V6.out.grown k9 (by simp; omega))
      replace V7 := Lib.hid o9
      clear o9 k9
      go_wp2_with fail
      go_meet
      exact ⟨R, Q, D, Wd ++ (⟨#[115]⟩ : ByteArray), hsz, V2, V3, V6, V7, hb⟩
    by_cases h4 : x = 4
    · subst h4
      go_upto_region 15 with fail
      go_wp2_with fail
      refine (l12Some_any P C n B5 (B1 + 1) B1 _ _ HGD.out h9 (bat_of V5.out) (by omega) HS.out (by omega) (by omega)).mono ?_
      rintro e w9 ⟨⟨R', Q', D', W'⟩, hW', rfl, s9, g9⟩
      replace hW' : W'.size ≤ 20 := hW'
      replace hb := hb.grown g9 hb.size (fun q h => by cases h; omega)
      replace V2 := Lib.hid (V2.out.grown g9 (by simp; omega))
      replace V3 := Lib.hid (V3.out.grown g9 (by simp; omega))
      replace V6 := Lib.hid (V6.out.grown g9 (by simp; omega))
      replace V7 := Lib.hid (V7.out.grown g9 (by simp; omega))
      clear s9 g9 HGD HS V5
      simp only
      have y0 := V7.out.cell (i := 0) rfl
      have y1 := V7.out.cell (i := 1) rfl
      have y2 := V7.out.cell (i := 2) rfl
      have y3 := V7.out.cell (i := 3) rfl
      have z0 := V7.out.free 0
      have z1 := V7.out.free 1
      have z2 := V7.out.free 2
      have z3 := V7.out.free 3
      obtain ⟨q0, l0⟩ := V7.out.set 0 (.int .i64 R')
      obtain ⟨q1, l1⟩ := q0.set 1 (.int .i64 Q')
      obtain ⟨q2, l2⟩ := q1.set 2 (.bool D')
      obtain ⟨q3, l3⟩ := q2.set 3 (.string W')
      have GG := grownBy_trans (grownBy_trans (grownBy_trans l0 l1) l2) l3
      have O7 := Lib.hid q3
      replace hb := hb.grown GG hb.size (fun q h => by cases h; omega)
      replace V2 := Lib.hid (V2.out.grown GG (by simp; omega))
      replace V3 := Lib.hid (V3.out.grown GG (by simp; omega))
      replace V6 := Lib.hid (V6.out.grown GG (by simp; omega))
      clear q0 q1 q2 q3 l0 l1 l2 l3 GG V7
      go_wp2_with fail
      go_meet
      exact ⟨R', Q', D', W', (by omega), V2, V3, V6, O7, hb⟩
    · go_wp2_with fail
      go_meet
      exact ⟨R, Q, D, Wd, (by omega), V2, V3, V6, V7, hb⟩
  case rest =>
    clear V2 V3 V6 V7 hb HS V5 HGD
    obtain ⟨R', Q', D', W', hW', V2, V3, V6, V7, hb⟩ := hcut
    go_upto_region 16 with fail
    replace hb := hb.trans ((Below.refl _ _).drew)
    replace V2 := Lib.hid (V2.out.kept ((Below.refl _ _).drew))
    replace V3 := Lib.hid (V3.out.kept ((Below.refl _ _).drew))
    replace V6 := Lib.hid (V6.out.kept ((Below.refl _ _).drew))
    replace V7 := Lib.hid (V7.out.kept ((Below.refl _ _).drew))
    refine wp_region_held_drew (S := fun W => W.rangeAt B6 0 [.int .i64 R, .int .i64 Q, .bool D, .string Wd] ∧ W.rangeAt B7 0 [.int .i64 R', .int .i64 Q', .bool D', .string W']) (by kernel_rfl) ⟨V6.out.range, V7.out.range⟩ (fun hHeld => ?_)
    generalize World.drew _ = wD at *
    refine slotA 0 45 (.agg #[.int .i64 R, .int .i64 Q, .bool D, .string Wd]) ?_ (hy := yieldsIf_load_mid (by rfl) 30 _ rfl B6 0 rfl [.int .i64 R, .int .i64 Q, .bool D, .string Wd] _ (fun w' hS => hS.1) Tryz.underlying30 rfl (by kernel_rfl))
    simp only [S3]
    refine slotA 1 46 (.agg #[.int .i64 R', .int .i64 Q', .bool D', .string W']) ?_ (hy := yieldsIf_load_mid (by rfl) 30 _ rfl B7 0 rfl [.int .i64 R', .int .i64 Q', .bool D', .string W'] _ (fun w' hS => hS.2) Tryz.underlying30 rfl (by kernel_rfl))
    simp only [S3]
    refine wpAnyH_ready (rs := [2]) (by kernel_rfl) (by simp) ?_
    refine AllReadyH.cons (o := _) rfl (fun K hK => ?_) AllReadyH.nil
    obtain ⟨o2, GG⟩ := V2.out.put [.int .i64 R, .int .i64 Q, .bool D, .string Wd] rfl
    have tR := V2.out.there (n := 4) rfl
    refine mk_store rfl rfl 30 (.tmp 2) (.tmp 45) rfl (w.heap.size) 0 #[.int .i64 R, .int .i64 Q, .bool D, .string Wd] rfl rfl tR (by kernel_rfl) (by simp [Value.oneCell']) ?_
    replace hb := hb.grown GG hb.size (fun q h => by cases h; omega)
    replace V6 := Lib.hid (V6.out.grown GG (by simp; omega))
    replace V7 := Lib.hid (V7.out.grown GG (by simp; omega))
    replace V3 := Lib.hid (V3.out.grown GG (by simp))
    replace V2 := Lib.hid o2
    refine hK.out _ _ ⟨V6.out.range, V7.out.range⟩ (fun hHeld9 => ?_)
    clear hK K tR o2 GG hHeld9
    change wpAnyH _ _ _ _ _ _ _ _ (World.setCells _ w.heap.size 0 [.int .i64 R, .int .i64 Q, .bool D, .string Wd])
    generalize World.setCells _ w.heap.size 0 [.int .i64 R, .int .i64 Q, .bool D, .string Wd] = wx2 at *
    refine wpAnyH_ready (rs := [3]) (by kernel_rfl) (by simp) ?_
    refine AllReadyH.cons (o := _) rfl (fun K hK => ?_) AllReadyH.nil
    obtain ⟨o2, GG⟩ := V3.out.put [.int .i64 R', .int .i64 Q', .bool D', .string W'] rfl
    have tR := V3.out.there (n := 4) rfl
    refine mk_store rfl rfl 30 (.tmp 3) (.tmp 46) rfl (w.heap.size + 1) 0 #[.int .i64 R', .int .i64 Q', .bool D', .string W'] rfl rfl tR (by kernel_rfl) (by simp [Value.oneCell']) ?_
    replace hb := hb.grown GG hb.size (fun q h => by cases h; omega)
    replace V6 := Lib.hid (V6.out.grown GG (by simp; omega))
    replace V7 := Lib.hid (V7.out.grown GG (by simp; omega))
    replace V2 := Lib.hid (V2.out.grown GG (by simp))
    replace V3 := Lib.hid o2
    refine hK.out _ _ ⟨V6.out.range, V7.out.range⟩ (fun hHeld9 => ?_)
    clear hK K tR o2 GG hHeld9
    change wpAnyH _ _ _ _ _ _ _ _ (World.setCells _ (w.heap.size + 1) 0 [.int .i64 R', .int .i64 Q', .bool D', .string W'])
    generalize World.setCells _ (w.heap.size + 1) 0 [.int .i64 R', .int .i64 Q', .bool D', .string W'] = wx3 at *
    refine wpAnyH_done (by kernel_rfl) ?_ _
    have e0 := V2.out.cell (i := 0) rfl
    have e1 := V2.out.cell (i := 1) rfl
    have e2 := V2.out.cell (i := 2) rfl
    have e3 := V2.out.cell (i := 3) rfl
    have u0 := V3.out.cell (i := 0) rfl
    have u1 := V3.out.cell (i := 1) rfl
    have u2 := V3.out.cell (i := 2) rfl
    have u3 := V3.out.cell (i := 3) rfl
    clear V2 V3 V6 V7
    go_wp2
    refine bodyPost_ret (v := .tuple #[.agg #[.int .i64 R, .int .i64 Q, .bool D, .string Wd], .agg #[.int .i64 R', .int .i64 Q', .bool D', .string W']]) (by simp [results, Tryz.results54, go_sem, e0, e1, e2, e3, u0, u1, u2, u3]) rfl ?_
    exact ⟨⟨R, Q, D, Wd⟩, ⟨R', Q', D', W'⟩, Nat.le_trans hW (by decide), hW', rfl, hb⟩
end Go.Proofs.YtjdcdhhbgijaoaaGreatDoor
