/- Contracts: the reference's draw of a board and a play that are seldom not valid. Nothing is said of them but that their texts are short. -/
import Derived.Test.YtjdcdhhbgijaoaaGreatDoorDbB
import Derived.Test.YtjdcdhhbgijaoaaGreatDoorDbP
namespace Go.Proofs.YtjdcdhhbgijaoaaGreatDoor
open Go.ChangeShapes Go.WideShapes Go.ChangeAt Go.RowKit Go.Sort

/-- a board and a play with short texts are drawn; the source goes on -/
def PairDrawn (w : World) (N b k : Nat) (e : Ending) (w' : World) : Prop :=
  ∃ (bd : Brd) (p : Ply), bd.premium.size ≤ 300 ∧ bd.cells.size ≤ 300 ∧ p.word.size ≤ 20 ∧ e = .returned (.tuple #[.agg #[.int .i64 bd.size, .string bd.premium, .string bd.cells], .agg #[.int .i64 p.row, .int .i64 p.col, .bool p.down, .string p.word]]) ∧ SrcAt w' N b k ∧ w.grownBy w' (some b)
theorem short_ok {x : ByteArray} {xs : List ByteArray} (h : x ∈ xs) (ha : xs.all (fun s => decide (s.size ≤ 20)) = true) : x.size ≤ 20 := by
  have := List.all_eq_true.1 ha x h
  rwa [decide_eq_true_eq] at this
set_option maxRecDepth 100000 in
set_option maxHeartbeats 8000000 in
theorem l12Bent_any (N b k : Nat) (w : World) (hs : SrcAt w N b k) (hk : k < 134217728) (hN : N ≤ w.heap.size) :
    Calls Tryz.prog 119 #[.pointer (some ⟨b, 0, none⟩)] w (PairDrawn w N b (k + 200)) := by
  have hbN := hs.lt
  obtain ⟨w1, hw1⟩ : ∃ w1, w1 = (w.alloc (.cells #[.int .i64 0, .string ⟨#[]⟩, .string ⟨#[]⟩] 25)).alloc (.cells #[.int .i64 0, .int .i64 0, .bool false, .string ⟨#[]⟩] 30) := ⟨_, rfl⟩
  have hb : Below w.heap.size w w1 := by rw [hw1]; exact ((Below.refl _ _).alloc (Nat.le_refl _) _).alloc (by simp) _
  have hz1 : w.heap.size + 1 < w1.heap.size := by rw [hw1]; simp
  have V2 : Hid (VarAt w1 w.heap.size 25 [.int .i64 0, .string ⟨#[]⟩, .string ⟨#[]⟩]) := by
    rw [hw1]
    exact Lib.hid ((VarAt.new w 25 [.int .i64 0, .string ⟨#[]⟩, .string ⟨#[]⟩]).kept ((Below.refl _ _).alloc (Nat.le_refl _) _))
  have V3 : Hid (VarAt w1 (w.heap.size + 1) 30 [.int .i64 0, .int .i64 0, .bool false, .string ⟨#[]⟩]) := by
    rw [hw1]
    have := VarAt.new (w.alloc (.cells #[.int .i64 0, .string ⟨#[]⟩, .string ⟨#[]⟩] 25)) 30 [.int .i64 0, .int .i64 0, .bool false, .string ⟨#[]⟩]
    simp only [World.size_alloc] at this
    exact Lib.hid this
  have HS := Lib.hid (hs.kept hb)
  have G := Lib.hid (grown_of_below (row := some b) hb)
  have HW1 := Lib.hid hw1
  clear hs hb hw1
  go_enter Tryz.func119, Tryz.ntmps119
  go_upto_region 1 with fail
  rw [← HW1.out]
  clear HW1
  go_wp2_with fail
  refine (l11Draw_any N b k _ HS.out (by omega) (by omega)).mono ?_
  rintro e w3 ⟨n, ⟨bz, P, C⟩, hgd, h9, rfl, s3, g3⟩
  obtain rfl : bz = (n : Int) := hgd.size
  have hz3 : w.heap.size + 1 < w3.heap.size := by have := g3.size; omega
  replace HS := Lib.hid s3
  replace G := Lib.hid (grownBy_trans G.out g3)
  replace V2 := Lib.hid (V2.out.grown g3 (by simp; omega))
  replace V3 := Lib.hid (V3.out.grown g3 (by simp; omega))
  have hP : P.size = n * n := hgd.prem
  have hC : C.size = n * n := hgd.cells
  have hnn : n * n ≤ 81 := Nat.mul_le_mul h9 h9
  have hP1 : P.size ≤ 300 := by omega
  have hC1 : C.size ≤ 300 := by omega
  have HGD := Lib.hid hgd
  clear s3 g3 hz1 hgd hP hC hnn
  simp only
  have hx : Below w3.heap.size w3 (w3.alloc (.cells #[.int .i64 (n : Int), .string P, .string C] 25)) := (Below.refl _ _).alloc (Nat.le_refl _) _
  have V4 := Lib.hid (VarAt.new w3 25 [.int .i64 (n : Int), .string P, .string C])
  have hz4 : w3.heap.size < (w3.alloc (.cells #[.int .i64 (n : Int), .string P, .string C] 25)).heap.size := by simp
  replace HS := Lib.hid (HS.out.kept hx)
  replace G := Lib.hid (grown_below G.out hx)
  replace V2 := Lib.hid (V2.out.kept hx)
  replace V3 := Lib.hid (V3.out.kept hx)
  clear hx
  go_upto_region 2 with fail
  generalize w3.alloc (.cells #[.int .i64 (n : Int), .string P, .string C] 25) = w4 at *
  generalize w3.heap.size = B4 at *
  go_wp2_with fail
  refine (l12Some_any P C n B4 N b (k + 40) _ HGD.out h9 (bat_of V4.out) (by omega) HS.out (by omega) (by omega)).mono ?_
  rintro e w5 ⟨⟨R, Q, D, Wd⟩, hW, rfl, s5, g5⟩
  have hz5 : B4 < w5.heap.size := by have := g5.size; omega
  replace hW : Wd.size ≤ 20 := hW
  replace HS := Lib.hid s5
  replace G := Lib.hid (grownBy_trans G.out g5)
  replace V2 := Lib.hid (V2.out.grown g5 (by simp; omega))
  replace V3 := Lib.hid (V3.out.grown g5 (by simp; omega))
  replace V4 := Lib.hid (V4.out.grown g5 (by simp; omega))
  clear s5 g5 hz4 HGD
  simp only
  have hx : Below w5.heap.size w5 (w5.alloc (.cells #[.int .i64 R, .int .i64 Q, .bool D, .string Wd] 30)) := (Below.refl _ _).alloc (Nat.le_refl _) _
  have V5 := Lib.hid (VarAt.new w5 30 [.int .i64 R, .int .i64 Q, .bool D, .string Wd])
  replace V4 := Lib.hid (V4.out.kept hx)
  replace HS := Lib.hid (HS.out.kept hx)
  replace G := Lib.hid (grown_below G.out hx)
  replace V2 := Lib.hid (V2.out.kept hx)
  replace V3 := Lib.hid (V3.out.kept hx)
  clear hx
  go_upto_region 3 with fail
  generalize w5.alloc (.cells #[.int .i64 R, .int .i64 Q, .bool D, .string Wd] 30) = w6 at *
  generalize w5.heap.size = B5 at *
  go_wp2_with fail
  refine (pick_any 24 N b _ _ HS.out (by omega)).mono ?_
  rintro e w7 ⟨x, ⟨x0, x1, _, _⟩, rfl, s4, g4⟩
  replace HS := Lib.hid s4
  replace G := Lib.hid (grownBy_trans G.out g4)
  replace V2 := Lib.hid (V2.out.grown g4 (by simp; omega))
  replace V3 := Lib.hid (V3.out.grown g4 (by simp; omega))
  replace V4 := Lib.hid (V4.out.grown g4 (by simp; omega))
  replace V5 := Lib.hid (V5.out.grown g4 (by simp; omega))
  clear g4 s4
  clear x1
  by_cases h0 : x = 0
  · subst h0
    have hlt4 := V5.out.lt
    have hx : Below w7.heap.size w7 (w7.alloc (.cells (([-1, (n : Int), 9223372036854775807] : List Int).flatMap I64.enc).toArray 2)) := (Below.refl _ _).alloc (Nat.le_refl _) _
    have HC := Lib.hid (cells_new (enc := I64.enc) (sz := 1) (fun _ => rfl) w7 [-1, (n : Int), 9223372036854775807] 2)
    have q0 := V4.out.cell (i := 0) rfl
    replace HS := Lib.hid (HS.out.kept hx)
    replace G := Lib.hid (grown_below G.out hx)
    replace V2 := Lib.hid (V2.out.kept hx)
    replace V3 := Lib.hid (V3.out.kept hx)
    replace V4 := Lib.hid (V4.out.kept hx)
    replace V5 := Lib.hid (V5.out.kept hx)
    clear hx
    go_wp2_with fail
    refine (among_any [-1, (n : Int), 9223372036854775807] w7.heap.size 3 N b _ _ HS.out (by omega) HC.out (by simp) (by simp) (by omega)).mono ?_
    rintro e w8 ⟨s, hx, rfl, s5, g5⟩
    replace HS := Lib.hid s5
    replace G := Lib.hid (grownBy_trans G.out g5)
    replace V2 := Lib.hid (V2.out.grown g5 (by simp; omega))
    replace V3 := Lib.hid (V3.out.grown g5 (by simp; omega))
    replace V4 := Lib.hid (V4.out.grown g5 (by simp; omega))
    replace V5 := Lib.hid (V5.out.grown g5 (by simp; omega))
    clear g5 s5
    clear q0 HC hx
    have y0 := V5.out.cell (i := 0) rfl
    have g0 := V5.out.free 0
    obtain ⟨o9, k9⟩ := V5.out.set 0 (.int .i64 s)
    replace HS := Lib.hid (HS.out.grown k9 (fun g e => by simp at e; omega))
    replace G := Lib.hid (grown_over G.out k9 (by omega))
    replace V2 := Lib.hid (V2.out.grown k9 (by simp; omega))
    replace V3 := Lib.hid (V3.out.grown k9 (by simp; omega))
    replace V4 := Lib.hid (V4.out.grown k9 (by simp; omega))
    replace V5 := Lib.hid o9
    clear o9 k9
    have hzP : (P).size ≤ 300 := hP1
    have hzC : (C).size ≤ 300 := hC1
    have hzW : (Wd).size ≤ 20 := hW
    go_upto_region 14 with fail
    replace HS := Lib.hid (HS.out.kept ((Below.refl _ _).drew))
    replace G := Lib.hid (grown_below G.out ((Below.refl _ _).drew))
    replace V2 := Lib.hid (V2.out.kept ((Below.refl _ _).drew))
    replace V3 := Lib.hid (V3.out.kept ((Below.refl _ _).drew))
    replace V4 := Lib.hid (V4.out.kept ((Below.refl _ _).drew))
    replace V5 := Lib.hid (V5.out.kept ((Below.refl _ _).drew))
    refine wp_region_held_drew (S := fun W => W.rangeAt B4 0 [.int .i64 (n : Int), .string P, .string C] ∧ W.rangeAt B5 0 [.int .i64 s, .int .i64 Q, .bool D, .string Wd]) (by kernel_rfl) ⟨V4.out.range, V5.out.range⟩ (fun hHeld => ?_)
    generalize World.drew _ = wD at *
    refine slotA 0 47 (.agg #[.int .i64 (n : Int), .string P, .string C]) ?_ (hy := yieldsIf_load_mid (by rfl) 25 _ rfl B4 0 rfl [.int .i64 (n : Int), .string P, .string C] _ (fun w' hS => hS.1) Tryz.underlying25 rfl (by kernel_rfl))
    simp only [S3]
    refine slotA 1 48 (.agg #[.int .i64 s, .int .i64 Q, .bool D, .string Wd]) ?_ (hy := yieldsIf_load_mid (by rfl) 30 _ rfl B5 0 rfl [.int .i64 s, .int .i64 Q, .bool D, .string Wd] _ (fun w' hS => hS.2) Tryz.underlying30 rfl (by kernel_rfl))
    simp only [S3]
    refine wpAnyH_ready (rs := [2]) (by kernel_rfl) (by simp) ?_
    refine AllReadyH.cons (o := _) rfl (fun K hK => ?_) AllReadyH.nil
    obtain ⟨o2, GG⟩ := V2.out.put [.int .i64 (n : Int), .string P, .string C] rfl
    have tR := V2.out.there (n := 3) rfl
    refine mk_store rfl rfl 25 (.tmp 2) (.tmp 47) rfl w.heap.size 0 #[.int .i64 (n : Int), .string P, .string C] rfl rfl tR (by kernel_rfl) (by simp [Value.oneCell']) ?_
    replace HS := Lib.hid (HS.out.grown GG (fun g e => by simp at e; omega))
    replace G := Lib.hid (grown_over G.out GG (by omega))
    replace V3 := Lib.hid (V3.out.grown GG (by simp))
    replace V4 := Lib.hid (V4.out.grown GG (by simp; omega))
    replace V5 := Lib.hid (V5.out.grown GG (by simp; omega))
    replace V2 := Lib.hid o2
    refine hK.out _ _ ⟨V4.out.range, V5.out.range⟩ (fun hHeld9 => ?_)
    clear hK K tR o2 GG hHeld9
    change wpAnyH _ _ _ _ _ _ _ _ (World.setCells _ w.heap.size 0 [.int .i64 (n : Int), .string P, .string C])
    generalize World.setCells _ w.heap.size 0 [.int .i64 (n : Int), .string P, .string C] = wx2 at *
    refine wpAnyH_ready (rs := [3]) (by kernel_rfl) (by simp) ?_
    refine AllReadyH.cons (o := _) rfl (fun K hK => ?_) AllReadyH.nil
    obtain ⟨o2, GG⟩ := V3.out.put [.int .i64 s, .int .i64 Q, .bool D, .string Wd] rfl
    have tR := V3.out.there (n := 4) rfl
    refine mk_store rfl rfl 30 (.tmp 3) (.tmp 48) rfl (w.heap.size + 1) 0 #[.int .i64 s, .int .i64 Q, .bool D, .string Wd] rfl rfl tR (by kernel_rfl) (by simp [Value.oneCell']) ?_
    replace HS := Lib.hid (HS.out.grown GG (fun g e => by simp at e; omega))
    replace G := Lib.hid (grown_over G.out GG (by omega))
    replace V2 := Lib.hid (V2.out.grown GG (by simp))
    replace V4 := Lib.hid (V4.out.grown GG (by simp; omega))
    replace V5 := Lib.hid (V5.out.grown GG (by simp; omega))
    replace V3 := Lib.hid o2
    refine hK.out _ _ ⟨V4.out.range, V5.out.range⟩ (fun hHeld9 => ?_)
    clear hK K tR o2 GG hHeld9
    change wpAnyH _ _ _ _ _ _ _ _ (World.setCells _ (w.heap.size + 1) 0 [.int .i64 s, .int .i64 Q, .bool D, .string Wd])
    generalize World.setCells _ (w.heap.size + 1) 0 [.int .i64 s, .int .i64 Q, .bool D, .string Wd] = wx3 at *
    refine wpAnyH_done (by kernel_rfl) ?_ _
    have e0 := V2.out.cell (i := 0) rfl
    have e1 := V2.out.cell (i := 1) rfl
    have e2 := V2.out.cell (i := 2) rfl
    have u0 := V3.out.cell (i := 0) rfl
    have u1 := V3.out.cell (i := 1) rfl
    have u2 := V3.out.cell (i := 2) rfl
    have u3 := V3.out.cell (i := 3) rfl
    clear V2 V3 V4 V5
    go_wp2
    refine bodyPost_ret (v := .tuple #[.agg #[.int .i64 (n : Int), .string P, .string C], .agg #[.int .i64 s, .int .i64 Q, .bool D, .string Wd]]) (by simp [results, Tryz.results119, go_sem, e0, e1, e2, u0, u1, u2, u3]) rfl ?_
    exact ⟨⟨(n : Int), P, C⟩, ⟨s, Q, D, Wd⟩, hzP, hzC, hzW, rfl, HS.out.mono (Nat.le_refl _) (by omega), G.out⟩
  · by_cases h1 : x = 1
    · subst h1
      have hlt4 := V5.out.lt
      have wn : IntKind.i64.wrap ((n : Int) - 1) = (n : Int) - 1 := IntWalk.i64_in _ (by omega)
      have hx : Below w7.heap.size w7 (w7.alloc (.cells (([-1, (n : Int) - 1, (n : Int), -9223372036854775808] : List Int).flatMap I64.enc).toArray 2)) := (Below.refl _ _).alloc (Nat.le_refl _) _
      have HC := Lib.hid (cells_new (enc := I64.enc) (sz := 1) (fun _ => rfl) w7 [-1, (n : Int) - 1, (n : Int), -9223372036854775808] 2)
      have q0 := V4.out.cell (i := 0) rfl
      replace HS := Lib.hid (HS.out.kept hx)
      replace G := Lib.hid (grown_below G.out hx)
      replace V2 := Lib.hid (V2.out.kept hx)
      replace V3 := Lib.hid (V3.out.kept hx)
      replace V4 := Lib.hid (V4.out.kept hx)
      replace V5 := Lib.hid (V5.out.kept hx)
      clear hx
      go_wp2_with fail
      refine (among_any [-1, (n : Int) - 1, (n : Int), -9223372036854775808] w7.heap.size 4 N b _ _ HS.out (by omega) HC.out (by simp) (by simp) (by omega)).mono ?_
      rintro e w8 ⟨s, hx, rfl, s5, g5⟩
      replace HS := Lib.hid s5
      replace G := Lib.hid (grownBy_trans G.out g5)
      replace V2 := Lib.hid (V2.out.grown g5 (by simp; omega))
      replace V3 := Lib.hid (V3.out.grown g5 (by simp; omega))
      replace V4 := Lib.hid (V4.out.grown g5 (by simp; omega))
      replace V5 := Lib.hid (V5.out.grown g5 (by simp; omega))
      clear g5 s5
      clear q0 HC hx
      have y0 := V5.out.cell (i := 1) rfl
      have g0 := V5.out.free 1
      obtain ⟨o9, k9⟩ := V5.out.set 1 (.int .i64 s)
      replace HS := Lib.hid (HS.out.grown k9 (fun g e => by simp at e; omega))
      replace G := Lib.hid (grown_over G.out k9 (by omega))
      replace V2 := Lib.hid (V2.out.grown k9 (by simp; omega))
      replace V3 := Lib.hid (V3.out.grown k9 (by simp; omega))
      replace V4 := Lib.hid (V4.out.grown k9 (by simp; omega))
      replace V5 := Lib.hid o9
      clear o9 k9
      have hzP : (P).size ≤ 300 := hP1
      have hzC : (C).size ≤ 300 := hC1
      have hzW : (Wd).size ≤ 20 := hW
      go_upto_region 14 with fail
      replace HS := Lib.hid (HS.out.kept ((Below.refl _ _).drew))
      replace G := Lib.hid (grown_below G.out ((Below.refl _ _).drew))
      replace V2 := Lib.hid (V2.out.kept ((Below.refl _ _).drew))
      replace V3 := Lib.hid (V3.out.kept ((Below.refl _ _).drew))
      replace V4 := Lib.hid (V4.out.kept ((Below.refl _ _).drew))
      replace V5 := Lib.hid (V5.out.kept ((Below.refl _ _).drew))
      refine wp_region_held_drew (S := fun W => W.rangeAt B4 0 [.int .i64 (n : Int), .string P, .string C] ∧ W.rangeAt B5 0 [.int .i64 R, .int .i64 s, .bool D, .string Wd]) (by kernel_rfl) ⟨V4.out.range, V5.out.range⟩ (fun hHeld => ?_)
      generalize World.drew _ = wD at *
      refine slotA 0 47 (.agg #[.int .i64 (n : Int), .string P, .string C]) ?_ (hy := yieldsIf_load_mid (by rfl) 25 _ rfl B4 0 rfl [.int .i64 (n : Int), .string P, .string C] _ (fun w' hS => hS.1) Tryz.underlying25 rfl (by kernel_rfl))
      simp only [S3]
      refine slotA 1 48 (.agg #[.int .i64 R, .int .i64 s, .bool D, .string Wd]) ?_ (hy := yieldsIf_load_mid (by rfl) 30 _ rfl B5 0 rfl [.int .i64 R, .int .i64 s, .bool D, .string Wd] _ (fun w' hS => hS.2) Tryz.underlying30 rfl (by kernel_rfl))
      simp only [S3]
      refine wpAnyH_ready (rs := [2]) (by kernel_rfl) (by simp) ?_
      refine AllReadyH.cons (o := _) rfl (fun K hK => ?_) AllReadyH.nil
      obtain ⟨o2, GG⟩ := V2.out.put [.int .i64 (n : Int), .string P, .string C] rfl
      have tR := V2.out.there (n := 3) rfl
      refine mk_store rfl rfl 25 (.tmp 2) (.tmp 47) rfl w.heap.size 0 #[.int .i64 (n : Int), .string P, .string C] rfl rfl tR (by kernel_rfl) (by simp [Value.oneCell']) ?_
      replace HS := Lib.hid (HS.out.grown GG (fun g e => by simp at e; omega))
      replace G := Lib.hid (grown_over G.out GG (by omega))
      replace V3 := Lib.hid (V3.out.grown GG (by simp))
      replace V4 := Lib.hid (V4.out.grown GG (by simp; omega))
      replace V5 := Lib.hid (V5.out.grown GG (by simp; omega))
      replace V2 := Lib.hid o2
      refine hK.out _ _ ⟨V4.out.range, V5.out.range⟩ (fun hHeld9 => ?_)
      clear hK K tR o2 GG hHeld9
      change wpAnyH _ _ _ _ _ _ _ _ (World.setCells _ w.heap.size 0 [.int .i64 (n : Int), .string P, .string C])
      generalize World.setCells _ w.heap.size 0 [.int .i64 (n : Int), .string P, .string C] = wx2 at *
      refine wpAnyH_ready (rs := [3]) (by kernel_rfl) (by simp) ?_
      refine AllReadyH.cons (o := _) rfl (fun K hK => ?_) AllReadyH.nil
      obtain ⟨o2, GG⟩ := V3.out.put [.int .i64 R, .int .i64 s, .bool D, .string Wd] rfl
      have tR := V3.out.there (n := 4) rfl
      refine mk_store rfl rfl 30 (.tmp 3) (.tmp 48) rfl (w.heap.size + 1) 0 #[.int .i64 R, .int .i64 s, .bool D, .string Wd] rfl rfl tR (by kernel_rfl) (by simp [Value.oneCell']) ?_
      replace HS := Lib.hid (HS.out.grown GG (fun g e => by simp at e; omega))
      replace G := Lib.hid (grown_over G.out GG (by omega))
      replace V2 := Lib.hid (V2.out.grown GG (by simp))
      replace V4 := Lib.hid (V4.out.grown GG (by simp; omega))
      replace V5 := Lib.hid (V5.out.grown GG (by simp; omega))
      replace V3 := Lib.hid o2
      refine hK.out _ _ ⟨V4.out.range, V5.out.range⟩ (fun hHeld9 => ?_)
      clear hK K tR o2 GG hHeld9
      change wpAnyH _ _ _ _ _ _ _ _ (World.setCells _ (w.heap.size + 1) 0 [.int .i64 R, .int .i64 s, .bool D, .string Wd])
      generalize World.setCells _ (w.heap.size + 1) 0 [.int .i64 R, .int .i64 s, .bool D, .string Wd] = wx3 at *
      refine wpAnyH_done (by kernel_rfl) ?_ _
      have e0 := V2.out.cell (i := 0) rfl
      have e1 := V2.out.cell (i := 1) rfl
      have e2 := V2.out.cell (i := 2) rfl
      have u0 := V3.out.cell (i := 0) rfl
      have u1 := V3.out.cell (i := 1) rfl
      have u2 := V3.out.cell (i := 2) rfl
      have u3 := V3.out.cell (i := 3) rfl
      clear V2 V3 V4 V5
      go_wp2
      refine bodyPost_ret (v := .tuple #[.agg #[.int .i64 (n : Int), .string P, .string C], .agg #[.int .i64 R, .int .i64 s, .bool D, .string Wd]]) (by simp [results, Tryz.results119, go_sem, e0, e1, e2, u0, u1, u2, u3]) rfl ?_
      exact ⟨⟨(n : Int), P, C⟩, ⟨R, s, D, Wd⟩, hzP, hzC, hzW, rfl, HS.out.mono (Nat.le_refl _) (by omega), G.out⟩
    · by_cases h2 : x = 2
      · subst h2
        have hlt4 := V5.out.lt
        have hx : Below w7.heap.size w7 (w7.alloc (.cells (([⟨#[]⟩, ⟨#[97]⟩, ⟨#[97, 63, 98]⟩, ⟨#[97, 98, 99, 100, 101, 102, 103, 104, 105, 106, 107, 108, 109]⟩, ⟨#[97, 98, 99, 100, 101, 102, 103, 104, 105, 106, 107, 108]⟩] : List ByteArray).flatMap Str.enc).toArray 9)) := (Below.refl _ _).alloc (Nat.le_refl _) _
        have HC := Lib.hid (cells_new (enc := Str.enc) (sz := 1) (fun _ => rfl) w7 [⟨#[]⟩, ⟨#[97]⟩, ⟨#[97, 63, 98]⟩, ⟨#[97, 98, 99, 100, 101, 102, 103, 104, 105, 106, 107, 108, 109]⟩, ⟨#[97, 98, 99, 100, 101, 102, 103, 104, 105, 106, 107, 108]⟩] 9)
        replace HS := Lib.hid (HS.out.kept hx)
        replace G := Lib.hid (grown_below G.out hx)
        replace V2 := Lib.hid (V2.out.kept hx)
        replace V3 := Lib.hid (V3.out.kept hx)
        replace V4 := Lib.hid (V4.out.kept hx)
        replace V5 := Lib.hid (V5.out.kept hx)
        clear hx
        go_wp2_with fail
        refine (text_any [⟨#[]⟩, ⟨#[97]⟩, ⟨#[97, 63, 98]⟩, ⟨#[97, 98, 99, 100, 101, 102, 103, 104, 105, 106, 107, 108, 109]⟩, ⟨#[97, 98, 99, 100, 101, 102, 103, 104, 105, 106, 107, 108]⟩] w7.heap.size 5 N b _ _ HS.out (by omega) HC.out (by decide) (by decide) (by omega)).mono ?_
        rintro e w8 ⟨s, hx, rfl, s5, g5⟩
        replace HS := Lib.hid s5
        replace G := Lib.hid (grownBy_trans G.out g5)
        replace V2 := Lib.hid (V2.out.grown g5 (by simp; omega))
        replace V3 := Lib.hid (V3.out.grown g5 (by simp; omega))
        replace V4 := Lib.hid (V4.out.grown g5 (by simp; omega))
        replace V5 := Lib.hid (V5.out.grown g5 (by simp; omega))
        clear g5 s5
        have hsz := short_ok hx (by rfl)
        clear HC hx
        have y0 := V5.out.cell (i := 3) rfl
        have g0 := V5.out.free 3
        obtain ⟨o9, k9⟩ := V5.out.set 3 (.string s)
        replace HS := Lib.hid (HS.out.grown k9 (fun g e => by simp at e; omega))
        replace G := Lib.hid (grown_over G.out k9 (by omega))
        replace V2 := Lib.hid (V2.out.grown k9 (by simp; omega))
        replace V3 := Lib.hid (V3.out.grown k9 (by simp; omega))
        replace V4 := Lib.hid (V4.out.grown k9 (by simp; omega))
        replace V5 := Lib.hid o9
        clear o9 k9
        have hzP : (P).size ≤ 300 := hP1
        have hzC : (C).size ≤ 300 := hC1
        have hzW : (s).size ≤ 20 := hsz
        go_upto_region 14 with fail
        replace HS := Lib.hid (HS.out.kept ((Below.refl _ _).drew))
        replace G := Lib.hid (grown_below G.out ((Below.refl _ _).drew))
        replace V2 := Lib.hid (V2.out.kept ((Below.refl _ _).drew))
        replace V3 := Lib.hid (V3.out.kept ((Below.refl _ _).drew))
        replace V4 := Lib.hid (V4.out.kept ((Below.refl _ _).drew))
        replace V5 := Lib.hid (V5.out.kept ((Below.refl _ _).drew))
        refine wp_region_held_drew (S := fun W => W.rangeAt B4 0 [.int .i64 (n : Int), .string P, .string C] ∧ W.rangeAt B5 0 [.int .i64 R, .int .i64 Q, .bool D, .string s]) (by kernel_rfl) ⟨V4.out.range, V5.out.range⟩ (fun hHeld => ?_)
        generalize World.drew _ = wD at *
        refine slotA 0 47 (.agg #[.int .i64 (n : Int), .string P, .string C]) ?_ (hy := yieldsIf_load_mid (by rfl) 25 _ rfl B4 0 rfl [.int .i64 (n : Int), .string P, .string C] _ (fun w' hS => hS.1) Tryz.underlying25 rfl (by kernel_rfl))
        simp only [S3]
        refine slotA 1 48 (.agg #[.int .i64 R, .int .i64 Q, .bool D, .string s]) ?_ (hy := yieldsIf_load_mid (by rfl) 30 _ rfl B5 0 rfl [.int .i64 R, .int .i64 Q, .bool D, .string s] _ (fun w' hS => hS.2) Tryz.underlying30 rfl (by kernel_rfl))
        simp only [S3]
        refine wpAnyH_ready (rs := [2]) (by kernel_rfl) (by simp) ?_
        refine AllReadyH.cons (o := _) rfl (fun K hK => ?_) AllReadyH.nil
        obtain ⟨o2, GG⟩ := V2.out.put [.int .i64 (n : Int), .string P, .string C] rfl
        have tR := V2.out.there (n := 3) rfl
        refine mk_store rfl rfl 25 (.tmp 2) (.tmp 47) rfl w.heap.size 0 #[.int .i64 (n : Int), .string P, .string C] rfl rfl tR (by kernel_rfl) (by simp [Value.oneCell']) ?_
        replace HS := Lib.hid (HS.out.grown GG (fun g e => by simp at e; omega))
        replace G := Lib.hid (grown_over G.out GG (by omega))
        replace V3 := Lib.hid (V3.out.grown GG (by simp))
        replace V4 := Lib.hid (V4.out.grown GG (by simp; omega))
        replace V5 := Lib.hid (V5.out.grown GG (by simp; omega))
        replace V2 := Lib.hid o2
        refine hK.out _ _ ⟨V4.out.range, V5.out.range⟩ (fun hHeld9 => ?_)
        clear hK K tR o2 GG hHeld9
        change wpAnyH _ _ _ _ _ _ _ _ (World.setCells _ w.heap.size 0 [.int .i64 (n : Int), .string P, .string C])
        generalize World.setCells _ w.heap.size 0 [.int .i64 (n : Int), .string P, .string C] = wx2 at *
        refine wpAnyH_ready (rs := [3]) (by kernel_rfl) (by simp) ?_
        refine AllReadyH.cons (o := _) rfl (fun K hK => ?_) AllReadyH.nil
        obtain ⟨o2, GG⟩ := V3.out.put [.int .i64 R, .int .i64 Q, .bool D, .string s] rfl
        have tR := V3.out.there (n := 4) rfl
        refine mk_store rfl rfl 30 (.tmp 3) (.tmp 48) rfl (w.heap.size + 1) 0 #[.int .i64 R, .int .i64 Q, .bool D, .string s] rfl rfl tR (by kernel_rfl) (by simp [Value.oneCell']) ?_
        replace HS := Lib.hid (HS.out.grown GG (fun g e => by simp at e; omega))
        replace G := Lib.hid (grown_over G.out GG (by omega))
        replace V2 := Lib.hid (V2.out.grown GG (by simp))
        replace V4 := Lib.hid (V4.out.grown GG (by simp; omega))
        replace V5 := Lib.hid (V5.out.grown GG (by simp; omega))
        replace V3 := Lib.hid o2
        refine hK.out _ _ ⟨V4.out.range, V5.out.range⟩ (fun hHeld9 => ?_)
        clear hK K tR o2 GG hHeld9
        change wpAnyH _ _ _ _ _ _ _ _ (World.setCells _ (w.heap.size + 1) 0 [.int .i64 R, .int .i64 Q, .bool D, .string s])
        generalize World.setCells _ (w.heap.size + 1) 0 [.int .i64 R, .int .i64 Q, .bool D, .string s] = wx3 at *
        refine wpAnyH_done (by kernel_rfl) ?_ _
        have e0 := V2.out.cell (i := 0) rfl
        have e1 := V2.out.cell (i := 1) rfl
        have e2 := V2.out.cell (i := 2) rfl
        have u0 := V3.out.cell (i := 0) rfl
        have u1 := V3.out.cell (i := 1) rfl
        have u2 := V3.out.cell (i := 2) rfl
        have u3 := V3.out.cell (i := 3) rfl
        clear V2 V3 V4 V5
        go_wp2
        refine bodyPost_ret (v := .tuple #[.agg #[.int .i64 (n : Int), .string P, .string C], .agg #[.int .i64 R, .int .i64 Q, .bool D, .string s]]) (by simp [results, Tryz.results119, go_sem, e0, e1, e2, u0, u1, u2, u3]) rfl ?_
        exact ⟨⟨(n : Int), P, C⟩, ⟨R, Q, D, s⟩, hzP, hzC, hzW, rfl, HS.out.mono (Nat.le_refl _) (by omega), G.out⟩
      · by_cases h3 : x = 3
        · subst h3
          have hlt4 := V5.out.lt
          go_wp2_with fail
          refine (l11Bent_any N b _ _ HS.out (by omega) (by omega)).mono ?_
          rintro e w8 ⟨⟨bs, bp, bc⟩, hbp, hbc, rfl, s5, g5⟩
          replace HS := Lib.hid s5
          replace G := Lib.hid (grownBy_trans G.out g5)
          replace V2 := Lib.hid (V2.out.grown g5 (by simp; omega))
          replace V3 := Lib.hid (V3.out.grown g5 (by simp; omega))
          replace V4 := Lib.hid (V4.out.grown g5 (by simp; omega))
          replace V5 := Lib.hid (V5.out.grown g5 (by simp; omega))
          clear g5 s5
          replace hbp : bp.size ≤ 300 := hbp
          replace hbc : bc.size ≤ 300 := hbc
          have c0 := V4.out.cell (i := 0) rfl
          have c1 := V4.out.cell (i := 1) rfl
          have c2 := V4.out.cell (i := 2) rfl
          have f0 := V4.out.free 0
          have f1 := V4.out.free 1
          have f2 := V4.out.free 2
          obtain ⟨o0, k0⟩ := V4.out.set 0 (.int .i64 bs)
          obtain ⟨o1, k1⟩ := o0.set 1 (.string bp)
          obtain ⟨o2, k2⟩ := o1.set 2 (.string bc)
          have GG := grownBy_trans (grownBy_trans k0 k1) k2
          clear o0 o1 k0 k1 k2
          replace HS := Lib.hid (HS.out.grown GG (fun g e => by simp at e; omega))
          replace G := Lib.hid (grown_over G.out GG (by omega))
          replace V2 := Lib.hid (V2.out.grown GG (by simp; omega))
          replace V3 := Lib.hid (V3.out.grown GG (by simp; omega))
          replace V5 := Lib.hid (V5.out.grown GG (by simp; omega))
          replace V4 := Lib.hid o2
          clear o2 GG
          have hzP : (bp).size ≤ 300 := hbp
          have hzC : (bc).size ≤ 300 := hbc
          have hzW : (Wd).size ≤ 20 := hW
          go_upto_region 14 with fail
          replace HS := Lib.hid (HS.out.kept ((Below.refl _ _).drew))
          replace G := Lib.hid (grown_below G.out ((Below.refl _ _).drew))
          replace V2 := Lib.hid (V2.out.kept ((Below.refl _ _).drew))
          replace V3 := Lib.hid (V3.out.kept ((Below.refl _ _).drew))
          replace V4 := Lib.hid (V4.out.kept ((Below.refl _ _).drew))
          replace V5 := Lib.hid (V5.out.kept ((Below.refl _ _).drew))
          refine wp_region_held_drew (S := fun W => W.rangeAt B4 0 [.int .i64 bs, .string bp, .string bc] ∧ W.rangeAt B5 0 [.int .i64 R, .int .i64 Q, .bool D, .string Wd]) (by kernel_rfl) ⟨V4.out.range, V5.out.range⟩ (fun hHeld => ?_)
          generalize World.drew _ = wD at *
          refine slotA 0 47 (.agg #[.int .i64 bs, .string bp, .string bc]) ?_ (hy := yieldsIf_load_mid (by rfl) 25 _ rfl B4 0 rfl [.int .i64 bs, .string bp, .string bc] _ (fun w' hS => hS.1) Tryz.underlying25 rfl (by kernel_rfl))
          simp only [S3]
          refine slotA 1 48 (.agg #[.int .i64 R, .int .i64 Q, .bool D, .string Wd]) ?_ (hy := yieldsIf_load_mid (by rfl) 30 _ rfl B5 0 rfl [.int .i64 R, .int .i64 Q, .bool D, .string Wd] _ (fun w' hS => hS.2) Tryz.underlying30 rfl (by kernel_rfl))
          simp only [S3]
          refine wpAnyH_ready (rs := [2]) (by kernel_rfl) (by simp) ?_
          refine AllReadyH.cons (o := _) rfl (fun K hK => ?_) AllReadyH.nil
          obtain ⟨o2, GG⟩ := V2.out.put [.int .i64 bs, .string bp, .string bc] rfl
          have tR := V2.out.there (n := 3) rfl
          refine mk_store rfl rfl 25 (.tmp 2) (.tmp 47) rfl w.heap.size 0 #[.int .i64 bs, .string bp, .string bc] rfl rfl tR (by kernel_rfl) (by simp [Value.oneCell']) ?_
          replace HS := Lib.hid (HS.out.grown GG (fun g e => by simp at e; omega))
          replace G := Lib.hid (grown_over G.out GG (by omega))
          replace V3 := Lib.hid (V3.out.grown GG (by simp))
          replace V4 := Lib.hid (V4.out.grown GG (by simp; omega))
          replace V5 := Lib.hid (V5.out.grown GG (by simp; omega))
          replace V2 := Lib.hid o2
          refine hK.out _ _ ⟨V4.out.range, V5.out.range⟩ (fun hHeld9 => ?_)
          clear hK K tR o2 GG hHeld9
          change wpAnyH _ _ _ _ _ _ _ _ (World.setCells _ w.heap.size 0 [.int .i64 bs, .string bp, .string bc])
          generalize World.setCells _ w.heap.size 0 [.int .i64 bs, .string bp, .string bc] = wx2 at *
          refine wpAnyH_ready (rs := [3]) (by kernel_rfl) (by simp) ?_
          refine AllReadyH.cons (o := _) rfl (fun K hK => ?_) AllReadyH.nil
          obtain ⟨o2, GG⟩ := V3.out.put [.int .i64 R, .int .i64 Q, .bool D, .string Wd] rfl
          have tR := V3.out.there (n := 4) rfl
          refine mk_store rfl rfl 30 (.tmp 3) (.tmp 48) rfl (w.heap.size + 1) 0 #[.int .i64 R, .int .i64 Q, .bool D, .string Wd] rfl rfl tR (by kernel_rfl) (by simp [Value.oneCell']) ?_
          replace HS := Lib.hid (HS.out.grown GG (fun g e => by simp at e; omega))
          replace G := Lib.hid (grown_over G.out GG (by omega))
          replace V2 := Lib.hid (V2.out.grown GG (by simp))
          replace V4 := Lib.hid (V4.out.grown GG (by simp; omega))
          replace V5 := Lib.hid (V5.out.grown GG (by simp; omega))
          replace V3 := Lib.hid o2
          refine hK.out _ _ ⟨V4.out.range, V5.out.range⟩ (fun hHeld9 => ?_)
          clear hK K tR o2 GG hHeld9
          change wpAnyH _ _ _ _ _ _ _ _ (World.setCells _ (w.heap.size + 1) 0 [.int .i64 R, .int .i64 Q, .bool D, .string Wd])
          generalize World.setCells _ (w.heap.size + 1) 0 [.int .i64 R, .int .i64 Q, .bool D, .string Wd] = wx3 at *
          refine wpAnyH_done (by kernel_rfl) ?_ _
          have e0 := V2.out.cell (i := 0) rfl
          have e1 := V2.out.cell (i := 1) rfl
          have e2 := V2.out.cell (i := 2) rfl
          have u0 := V3.out.cell (i := 0) rfl
          have u1 := V3.out.cell (i := 1) rfl
          have u2 := V3.out.cell (i := 2) rfl
          have u3 := V3.out.cell (i := 3) rfl
          clear V2 V3 V4 V5
          go_wp2
          refine bodyPost_ret (v := .tuple #[.agg #[.int .i64 bs, .string bp, .string bc], .agg #[.int .i64 R, .int .i64 Q, .bool D, .string Wd]]) (by simp [results, Tryz.results119, go_sem, e0, e1, e2, u0, u1, u2, u3]) rfl ?_
          exact ⟨⟨bs, bp, bc⟩, ⟨R, Q, D, Wd⟩, hzP, hzC, hzW, rfl, HS.out.mono (Nat.le_refl _) (by omega), G.out⟩
        · by_cases h4 : x = 4
          · subst h4
            have d2 := V5.out.cell (i := 2) rfl
            have y0 := V5.out.cell (i := 2) rfl
            have g0 := V5.out.free 2
            obtain ⟨o9, k9⟩ := V5.out.set 2 (.bool (!D))
            replace HS := Lib.hid (HS.out.grown k9 (fun g e => by simp at e; omega))
            replace G := Lib.hid (grown_over G.out k9 (by omega))
            replace V2 := Lib.hid (V2.out.grown k9 (by simp; omega))
            replace V3 := Lib.hid (V3.out.grown k9 (by simp; omega))
            replace V4 := Lib.hid (V4.out.grown k9 (by simp; omega))
            replace V5 := Lib.hid o9
            clear o9 k9
            have hzP : (P).size ≤ 300 := hP1
            have hzC : (C).size ≤ 300 := hC1
            have hzW : (Wd).size ≤ 20 := hW
            go_upto_region 14 with fail
            replace HS := Lib.hid (HS.out.kept ((Below.refl _ _).drew))
            replace G := Lib.hid (grown_below G.out ((Below.refl _ _).drew))
            replace V2 := Lib.hid (V2.out.kept ((Below.refl _ _).drew))
            replace V3 := Lib.hid (V3.out.kept ((Below.refl _ _).drew))
            replace V4 := Lib.hid (V4.out.kept ((Below.refl _ _).drew))
            replace V5 := Lib.hid (V5.out.kept ((Below.refl _ _).drew))
            refine wp_region_held_drew (S := fun W => W.rangeAt B4 0 [.int .i64 (n : Int), .string P, .string C] ∧ W.rangeAt B5 0 [.int .i64 R, .int .i64 Q, .bool (!D), .string Wd]) (by kernel_rfl) ⟨V4.out.range, V5.out.range⟩ (fun hHeld => ?_)
            generalize World.drew _ = wD at *
            refine slotA 0 47 (.agg #[.int .i64 (n : Int), .string P, .string C]) ?_ (hy := yieldsIf_load_mid (by rfl) 25 _ rfl B4 0 rfl [.int .i64 (n : Int), .string P, .string C] _ (fun w' hS => hS.1) Tryz.underlying25 rfl (by kernel_rfl))
            simp only [S3]
            refine slotA 1 48 (.agg #[.int .i64 R, .int .i64 Q, .bool (!D), .string Wd]) ?_ (hy := yieldsIf_load_mid (by rfl) 30 _ rfl B5 0 rfl [.int .i64 R, .int .i64 Q, .bool (!D), .string Wd] _ (fun w' hS => hS.2) Tryz.underlying30 rfl (by kernel_rfl))
            simp only [S3]
            refine wpAnyH_ready (rs := [2]) (by kernel_rfl) (by simp) ?_
            refine AllReadyH.cons (o := _) rfl (fun K hK => ?_) AllReadyH.nil
            obtain ⟨o2, GG⟩ := V2.out.put [.int .i64 (n : Int), .string P, .string C] rfl
            have tR := V2.out.there (n := 3) rfl
            refine mk_store rfl rfl 25 (.tmp 2) (.tmp 47) rfl w.heap.size 0 #[.int .i64 (n : Int), .string P, .string C] rfl rfl tR (by kernel_rfl) (by simp [Value.oneCell']) ?_
            replace HS := Lib.hid (HS.out.grown GG (fun g e => by simp at e; omega))
            replace G := Lib.hid (grown_over G.out GG (by omega))
            replace V3 := Lib.hid (V3.out.grown GG (by simp))
            replace V4 := Lib.hid (V4.out.grown GG (by simp; omega))
            replace V5 := Lib.hid (V5.out.grown GG (by simp; omega))
            replace V2 := Lib.hid o2
            refine hK.out _ _ ⟨V4.out.range, V5.out.range⟩ (fun hHeld9 => ?_)
            clear hK K tR o2 GG hHeld9
            change wpAnyH _ _ _ _ _ _ _ _ (World.setCells _ w.heap.size 0 [.int .i64 (n : Int), .string P, .string C])
            generalize World.setCells _ w.heap.size 0 [.int .i64 (n : Int), .string P, .string C] = wx2 at *
            refine wpAnyH_ready (rs := [3]) (by kernel_rfl) (by simp) ?_
            refine AllReadyH.cons (o := _) rfl (fun K hK => ?_) AllReadyH.nil
            obtain ⟨o2, GG⟩ := V3.out.put [.int .i64 R, .int .i64 Q, .bool (!D), .string Wd] rfl
            have tR := V3.out.there (n := 4) rfl
            refine mk_store rfl rfl 30 (.tmp 3) (.tmp 48) rfl (w.heap.size + 1) 0 #[.int .i64 R, .int .i64 Q, .bool (!D), .string Wd] rfl rfl tR (by kernel_rfl) (by simp [Value.oneCell']) ?_
            replace HS := Lib.hid (HS.out.grown GG (fun g e => by simp at e; omega))
            replace G := Lib.hid (grown_over G.out GG (by omega))
            replace V2 := Lib.hid (V2.out.grown GG (by simp))
            replace V4 := Lib.hid (V4.out.grown GG (by simp; omega))
            replace V5 := Lib.hid (V5.out.grown GG (by simp; omega))
            replace V3 := Lib.hid o2
            refine hK.out _ _ ⟨V4.out.range, V5.out.range⟩ (fun hHeld9 => ?_)
            clear hK K tR o2 GG hHeld9
            change wpAnyH _ _ _ _ _ _ _ _ (World.setCells _ (w.heap.size + 1) 0 [.int .i64 R, .int .i64 Q, .bool (!D), .string Wd])
            generalize World.setCells _ (w.heap.size + 1) 0 [.int .i64 R, .int .i64 Q, .bool (!D), .string Wd] = wx3 at *
            refine wpAnyH_done (by kernel_rfl) ?_ _
            have e0 := V2.out.cell (i := 0) rfl
            have e1 := V2.out.cell (i := 1) rfl
            have e2 := V2.out.cell (i := 2) rfl
            have u0 := V3.out.cell (i := 0) rfl
            have u1 := V3.out.cell (i := 1) rfl
            have u2 := V3.out.cell (i := 2) rfl
            have u3 := V3.out.cell (i := 3) rfl
            clear V2 V3 V4 V5
            go_wp2
            refine bodyPost_ret (v := .tuple #[.agg #[.int .i64 (n : Int), .string P, .string C], .agg #[.int .i64 R, .int .i64 Q, .bool (!D), .string Wd]]) (by simp [results, Tryz.results119, go_sem, e0, e1, e2, u0, u1, u2, u3]) rfl ?_
            exact ⟨⟨(n : Int), P, C⟩, ⟨R, Q, (!D), Wd⟩, hzP, hzC, hzW, rfl, HS.out.mono (Nat.le_refl _) (by omega), G.out⟩
          · have e0 : (x == 0) = false := by simpa using h0
            have e1 : (x == 1) = false := by simpa using h1
            have e2 : (x == 2) = false := by simpa using h2
            have e3 : (x == 3) = false := by simpa using h3
            have e4 : (x == 4) = false := by simpa using h4
            have hzP : (P).size ≤ 300 := hP1
            have hzC : (C).size ≤ 300 := hC1
            have hzW : (Wd).size ≤ 20 := hW
            go_upto_region 14 with fail
            replace HS := Lib.hid (HS.out.kept ((Below.refl _ _).drew))
            replace G := Lib.hid (grown_below G.out ((Below.refl _ _).drew))
            replace V2 := Lib.hid (V2.out.kept ((Below.refl _ _).drew))
            replace V3 := Lib.hid (V3.out.kept ((Below.refl _ _).drew))
            replace V4 := Lib.hid (V4.out.kept ((Below.refl _ _).drew))
            replace V5 := Lib.hid (V5.out.kept ((Below.refl _ _).drew))
            refine wp_region_held_drew (S := fun W => W.rangeAt B4 0 [.int .i64 (n : Int), .string P, .string C] ∧ W.rangeAt B5 0 [.int .i64 R, .int .i64 Q, .bool D, .string Wd]) (by kernel_rfl) ⟨V4.out.range, V5.out.range⟩ (fun hHeld => ?_)
            generalize World.drew _ = wD at *
            refine slotA 0 47 (.agg #[.int .i64 (n : Int), .string P, .string C]) ?_ (hy := yieldsIf_load_mid (by rfl) 25 _ rfl B4 0 rfl [.int .i64 (n : Int), .string P, .string C] _ (fun w' hS => hS.1) Tryz.underlying25 rfl (by kernel_rfl))
            simp only [S3]
            refine slotA 1 48 (.agg #[.int .i64 R, .int .i64 Q, .bool D, .string Wd]) ?_ (hy := yieldsIf_load_mid (by rfl) 30 _ rfl B5 0 rfl [.int .i64 R, .int .i64 Q, .bool D, .string Wd] _ (fun w' hS => hS.2) Tryz.underlying30 rfl (by kernel_rfl))
            simp only [S3]
            refine wpAnyH_ready (rs := [2]) (by kernel_rfl) (by simp) ?_
            refine AllReadyH.cons (o := _) rfl (fun K hK => ?_) AllReadyH.nil
            obtain ⟨o2, GG⟩ := V2.out.put [.int .i64 (n : Int), .string P, .string C] rfl
            have tR := V2.out.there (n := 3) rfl
            refine mk_store rfl rfl 25 (.tmp 2) (.tmp 47) rfl w.heap.size 0 #[.int .i64 (n : Int), .string P, .string C] rfl rfl tR (by kernel_rfl) (by simp [Value.oneCell']) ?_
            replace HS := Lib.hid (HS.out.grown GG (fun g e => by simp at e; omega))
            replace G := Lib.hid (grown_over G.out GG (by omega))
            replace V3 := Lib.hid (V3.out.grown GG (by simp))
            replace V4 := Lib.hid (V4.out.grown GG (by simp; omega))
            replace V5 := Lib.hid (V5.out.grown GG (by simp; omega))
            replace V2 := Lib.hid o2
            refine hK.out _ _ ⟨V4.out.range, V5.out.range⟩ (fun hHeld9 => ?_)
            clear hK K tR o2 GG hHeld9
            change wpAnyH _ _ _ _ _ _ _ _ (World.setCells _ w.heap.size 0 [.int .i64 (n : Int), .string P, .string C])
            generalize World.setCells _ w.heap.size 0 [.int .i64 (n : Int), .string P, .string C] = wx2 at *
            refine wpAnyH_ready (rs := [3]) (by kernel_rfl) (by simp) ?_
            refine AllReadyH.cons (o := _) rfl (fun K hK => ?_) AllReadyH.nil
            obtain ⟨o2, GG⟩ := V3.out.put [.int .i64 R, .int .i64 Q, .bool D, .string Wd] rfl
            have tR := V3.out.there (n := 4) rfl
            refine mk_store rfl rfl 30 (.tmp 3) (.tmp 48) rfl (w.heap.size + 1) 0 #[.int .i64 R, .int .i64 Q, .bool D, .string Wd] rfl rfl tR (by kernel_rfl) (by simp [Value.oneCell']) ?_
            replace HS := Lib.hid (HS.out.grown GG (fun g e => by simp at e; omega))
            replace G := Lib.hid (grown_over G.out GG (by omega))
            replace V2 := Lib.hid (V2.out.grown GG (by simp))
            replace V4 := Lib.hid (V4.out.grown GG (by simp; omega))
            replace V5 := Lib.hid (V5.out.grown GG (by simp; omega))
            replace V3 := Lib.hid o2
            refine hK.out _ _ ⟨V4.out.range, V5.out.range⟩ (fun hHeld9 => ?_)
            clear hK K tR o2 GG hHeld9
            change wpAnyH _ _ _ _ _ _ _ _ (World.setCells _ (w.heap.size + 1) 0 [.int .i64 R, .int .i64 Q, .bool D, .string Wd])
            generalize World.setCells _ (w.heap.size + 1) 0 [.int .i64 R, .int .i64 Q, .bool D, .string Wd] = wx3 at *
            refine wpAnyH_done (by kernel_rfl) ?_ _
            have e0 := V2.out.cell (i := 0) rfl
            have e1 := V2.out.cell (i := 1) rfl
            have e2 := V2.out.cell (i := 2) rfl
            have u0 := V3.out.cell (i := 0) rfl
            have u1 := V3.out.cell (i := 1) rfl
            have u2 := V3.out.cell (i := 2) rfl
            have u3 := V3.out.cell (i := 3) rfl
            clear V2 V3 V4 V5
            go_wp2
            refine bodyPost_ret (v := .tuple #[.agg #[.int .i64 (n : Int), .string P, .string C], .agg #[.int .i64 R, .int .i64 Q, .bool D, .string Wd]]) (by simp [results, Tryz.results119, go_sem, e0, e1, e2, u0, u1, u2, u3]) rfl ?_
            exact ⟨⟨(n : Int), P, C⟩, ⟨R, Q, D, Wd⟩, hzP, hzC, hzW, rfl, HS.out.mono (Nat.le_refl _) (by omega), G.out⟩
end Go.Proofs.YtjdcdhhbgijaoaaGreatDoor
