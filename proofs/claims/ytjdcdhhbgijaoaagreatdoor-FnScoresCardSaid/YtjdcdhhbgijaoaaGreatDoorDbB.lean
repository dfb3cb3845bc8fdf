/- Contract: the reference's draw of a board that is seldom not valid. Nothing is said of it but that its texts are short. -/
import Derived.Test.YtjdcdhhbgijaoaaGreatDoorDbE
namespace Go.Proofs.YtjdcdhhbgijaoaaGreatDoor
open Go.ChangeShapes Go.WideShapes Go.ChangeAt Go.RowKit Go.Sort

/-- a board with short texts is drawn; the source goes on -/
def BoardBent (w : World) (N b k : Nat) (e : Ending) (w' : World) : Prop :=
  ∃ bd : Brd, bd.premium.size ≤ 300 ∧ bd.cells.size ≤ 300 ∧ e = .returned (.agg #[.int .i64 bd.size, .string bd.premium, .string bd.cells]) ∧ SrcAt w' N b k ∧ w.grownBy w' (some b)
theorem tail_le (p : ByteArray) : (p.extract 1 p.size).size ≤ p.size := by rw [ByteArray.size_extract]; omega
theorem among_big {x : Int} (h : x ∈ ([11, 12, 15] : List Int)) : ∃ m : Nat, x = m ∧ 11 ≤ m ∧ m ≤ 15 := by
  simp only [List.mem_cons, List.not_mem_nil, or_false] at h
  rcases h with rfl | rfl | rfl
  · exact ⟨11, rfl, by decide, by decide⟩
  · exact ⟨12, rfl, by decide, by decide⟩
  · exact ⟨15, rfl, by decide, by decide⟩
theorem one_len {x : ByteArray} {xs : List ByteArray} (h : x ∈ xs) (ha : xs.all (fun s => decide (s.size = 1)) = true) : x.size = 1 := by
  have := List.all_eq_true.1 ha x h
  rwa [decide_eq_true_eq] at this
/-- one letter goes ahead of a text's rest -/
theorem front_le {x p : ByteArray} (h : x.size = 1) : (x ++ p.extract 1 p.size).size ≤ p.size + 1 := by
  rw [ByteArray.size_append]
  have := tail_le p
  omega
set_option maxRecDepth 100000 in
set_option maxHeartbeats 400000 in
theorem l11Bent_any (N b k : Nat) (w : World) (hs : SrcAt w N b k) (hk : k < 268435456) (hN : N ≤ w.heap.size) :
    Calls Tryz.prog 109 #[.pointer (some ⟨b, 0, none⟩)] w (BoardBent w N b (k + 60)) := by
  have hbN := hs.lt
  have hb : Below w.heap.size w (w.alloc (.cells #[.int .i64 0, .string ⟨#[]⟩, .string ⟨#[]⟩] 25)) := (Below.refl _ _).alloc (Nat.le_refl _) _
  have HS := Lib.hid (hs.kept hb)
  have G := Lib.hid (grown_of_below (row := some b) hb)
  have V2 := Lib.hid (VarAt.new w 25 [.int .i64 0, .string ⟨#[]⟩, .string ⟨#[]⟩])
  have hz1 : (w.alloc (.cells #[.int .i64 0, .string ⟨#[]⟩, .string ⟨#[]⟩] 25)).heap.size = w.heap.size + 1 := by simp
  clear hs hb
  have HRP : Hid (∀ (c : UInt8) (n : Nat) W, n ≤ 1000 → Calls Tryz.prog 101 #[.int .u8 (c.toNat : Int), .int .i64 (n : Int)] W fun e w' => e = .returned (.string (mkB (List.replicate n c))) ∧ Below W.heap.size W w') := Lib.hid (fun c n W h => l02Repeat_any c n W (by omega))
  go_enter Tryz.func109, Tryz.ntmps109
  go_upto_region 1 with fail
  generalize w.alloc (.cells #[.int .i64 0, .string ⟨#[]⟩, .string ⟨#[]⟩] 25) = w1 at *
  go_wp2_with fail
  refine (l11Draw_any N b k _ HS.out (by omega) (by omega)).mono ?_
  rintro e w3 ⟨n, ⟨bz, P, C⟩, hgd, h9, rfl, s3, g3⟩
  have hz3 : w.heap.size < w3.heap.size := by have := g3.size; omega
  replace HS := Lib.hid s3
  replace G := Lib.hid (grownBy_trans G.out g3)
  replace V2 := Lib.hid (V2.out.grown g3 (by simp; omega))
  have h5 := hgd.lo
  have hP : P.size = n * n := hgd.prem
  have hC : C.size = n * n := hgd.cells
  have hnn : n * n ≤ 81 := Nat.mul_le_mul h9 h9
  have hnn2 : 25 ≤ n * n := Nat.mul_le_mul h5 h5
  have hP1 : P.size ≤ 81 := by omega
  have hP2 : 25 ≤ P.size := by omega
  have hC1 : C.size ≤ 81 := by omega
  have hC2 : 25 ≤ C.size := by omega
  clear s3 g3 hz1 hgd hP hC hnn hnn2
  simp only
  have hx : Below w3.heap.size w3 (w3.alloc (.cells #[.int .i64 (n : Int), .string P, .string C] 25)) := (Below.refl _ _).alloc (Nat.le_refl _) _
  have V3 := Lib.hid (VarAt.new w3 25 [.int .i64 (n : Int), .string P, .string C])
  replace HS := Lib.hid (HS.out.kept hx)
  replace G := Lib.hid (grown_below G.out hx)
  replace V2 := Lib.hid (V2.out.kept hx)
  clear hx
  generalize hB : w3.heap.size = B3 at *
  go_wp2_with fail
  clear hB
  refine (pick_any 30 N b _ _ HS.out (by omega)).mono ?_
  rintro e w4 ⟨x, ⟨x0, x1, _, _⟩, rfl, s4, g4⟩
  replace HS := Lib.hid s4
  replace G := Lib.hid (grownBy_trans G.out g4)
  replace V2 := Lib.hid (V2.out.grown g4 (by simp; omega))
  replace V3 := Lib.hid (V3.out.grown g4 (by simp; omega))
  clear g4 s4
  clear x1
  by_cases h0 : x = 0
  · subst h0
    have hlt4 := V3.out.lt
    have hw : IntKind.i64.wrap ((n : Int) + 1) = (n : Int) + 1 := IntWalk.i64_in _ (by omega)
    have hx : Below w4.heap.size w4 (w4.alloc (.cells (([4, 16, (n : Int) + 1] : List Int).flatMap I64.enc).toArray 2)) := (Below.refl _ _).alloc (Nat.le_refl _) _
    have HC := Lib.hid (cells_new (enc := I64.enc) (sz := 1) (fun _ => rfl) w4 [4, 16, (n : Int) + 1] 2)
    have q0 := V3.out.cell (i := 0) rfl
    replace HS := Lib.hid (HS.out.kept hx)
    replace G := Lib.hid (grown_below G.out hx)
    replace V2 := Lib.hid (V2.out.kept hx)
    replace V3 := Lib.hid (V3.out.kept hx)
    clear hx
    go_wp2_with fail
    refine (among_any [4, 16, (n : Int) + 1] w4.heap.size 3 N b _ _ HS.out (by omega) HC.out (by simp) (by simp) (by omega)).mono ?_
    rintro e w5 ⟨s, hx, rfl, s5, g5⟩
    replace HS := Lib.hid s5
    replace G := Lib.hid (grownBy_trans G.out g5)
    replace V2 := Lib.hid (V2.out.grown g5 (by simp; omega))
    replace V3 := Lib.hid (V3.out.grown g5 (by simp; omega))
    clear g5 s5
    clear q0 HC hx
    have y0 := V3.out.cell (i := 0) rfl
    have g0 := V3.out.free 0
    obtain ⟨o9, k9⟩ := V3.out.set 0 (.int .i64 s)
    replace HS := Lib.hid (HS.out.grown k9 (fun g e => by simp at e; omega))
    replace G := Lib.hid (grown_over G.out k9 (by omega))
    replace V2 := Lib.hid (V2.out.grown k9 (by simp; omega))
    replace V3 := Lib.hid o9
    clear o9 k9
    have z0 := V3.out.cell (i := 0) rfl
    have z1 := V3.out.cell (i := 1) rfl
    have z2 := V3.out.cell (i := 2) rfl
    have c0 := V2.out.cell (i := 0) rfl
    have c1 := V2.out.cell (i := 1) rfl
    have c2 := V2.out.cell (i := 2) rfl
    have f0 := V2.out.free 0
    have f1 := V2.out.free 1
    have f2 := V2.out.free 2
    obtain ⟨o0, k0⟩ := V2.out.set 0 (.int .i64 s)
    obtain ⟨o1, k1⟩ := o0.set 1 (.string P)
    obtain ⟨o2, k2⟩ := o1.set 2 (.string C)
    have GG := grownBy_trans (grownBy_trans k0 k1) k2
    clear o0 o1 k0 k1 k2
    replace HS := Lib.hid (HS.out.grown GG (fun g e => by simp at e; omega))
    replace G := Lib.hid (grown_over G.out GG (Nat.le_refl _))
    have e0 := o2.cell (i := 0) (v := .int .i64 s) rfl
    have e1 := o2.cell (i := 1) (v := .string P) rfl
    have e2 := o2.cell (i := 2) (v := .string C) rfl
    clear o2 GG V3 V2
    go_wp2
    refine bodyPost_ret (v := .agg #[.int .i64 s, .string P, .string C]) (by simp [results, Tryz.results109, go_sem, e0, e1, e2]) rfl ?_
    exact ⟨⟨s, P, C⟩, (show P.size ≤ 300 by omega), (show C.size ≤ 300 by omega), rfl, HS.out.mono (Nat.le_refl _) (by omega), G.out⟩
  · by_cases h1 : x = 1
    · subst h1
      have hx1 : 1 ≤ P.size := by omega
      have hx2 : (1 : Int) ≤ (P.size : Int) := by omega
      have y0 := V3.out.cell (i := 1) rfl
      have g0 := V3.out.free 1
      obtain ⟨o9, k9⟩ := V3.out.set 1 (.string (P.extract 1 P.size))
      replace HS := Lib.hid (HS.out.grown k9 (fun g e => by simp at e; omega))
      replace G := Lib.hid (grown_over G.out k9 (by omega))
      replace V2 := Lib.hid (V2.out.grown k9 (by simp; omega))
      replace V3 := Lib.hid o9
      clear o9 k9
      have z0 := V3.out.cell (i := 0) rfl
      have z1 := V3.out.cell (i := 1) rfl
      have z2 := V3.out.cell (i := 2) rfl
      have c0 := V2.out.cell (i := 0) rfl
      have c1 := V2.out.cell (i := 1) rfl
      have c2 := V2.out.cell (i := 2) rfl
      have f0 := V2.out.free 0
      have f1 := V2.out.free 1
      have f2 := V2.out.free 2
      obtain ⟨o0, k0⟩ := V2.out.set 0 (.int .i64 (n : Int))
      obtain ⟨o1, k1⟩ := o0.set 1 (.string (P.extract 1 P.size))
      obtain ⟨o2, k2⟩ := o1.set 2 (.string C)
      have GG := grownBy_trans (grownBy_trans k0 k1) k2
      clear o0 o1 k0 k1 k2
      replace HS := Lib.hid (HS.out.grown GG (fun g e => by simp at e; omega))
      replace G := Lib.hid (grown_over G.out GG (Nat.le_refl _))
      have e0 := o2.cell (i := 0) (v := .int .i64 (n : Int)) rfl
      have e1 := o2.cell (i := 1) (v := .string (P.extract 1 P.size)) rfl
      have e2 := o2.cell (i := 2) (v := .string C) rfl
      clear o2 GG V3 V2
      go_wp2
      refine bodyPost_ret (v := .agg #[.int .i64 (n : Int), .string (P.extract 1 P.size), .string C]) (by simp [results, Tryz.results109, go_sem, e0, e1, e2]) rfl ?_
      exact ⟨⟨(n : Int), (P.extract 1 P.size), C⟩, (Nat.le_trans (tail_le P) (by omega)), (show C.size ≤ 300 by omega), rfl, HS.out.mono (Nat.le_refl _) (by omega), G.out⟩
    · by_cases h2 : x = 2
      · subst h2
        have hsz : C.size + (⟨#[46]⟩ : ByteArray).size ≤ 9223372036854775807 := by show C.size + 1 ≤ _; omega
        have y0 := V3.out.cell (i := 2) rfl
        have g0 := V3.out.free 2
        obtain ⟨o9, k9⟩ := V3.out.set 2 (.string (C ++ ⟨#[46]⟩))
        replace HS := Lib.hid (HS.out.grown k9 (fun g e => by simp at e; omega))
        replace G := Lib.hid (grown_over G.out k9 (by omega))
        replace V2 := Lib.hid (V2.out.grown k9 (by simp; omega))
        replace V3 := Lib.hid o9
        clear o9 k9
        have hs4 : (C ++ ⟨#[46]⟩ : ByteArray).size ≤ 300 := by
          rw [ByteArray.size_append]
          show C.size + 1 ≤ 300
          omega
        have z0 := V3.out.cell (i := 0) rfl
        have z1 := V3.out.cell (i := 1) rfl
        have z2 := V3.out.cell (i := 2) rfl
        have c0 := V2.out.cell (i := 0) rfl
        have c1 := V2.out.cell (i := 1) rfl
        have c2 := V2.out.cell (i := 2) rfl
        have f0 := V2.out.free 0
        have f1 := V2.out.free 1
        have f2 := V2.out.free 2
        obtain ⟨o0, k0⟩ := V2.out.set 0 (.int .i64 (n : Int))
        obtain ⟨o1, k1⟩ := o0.set 1 (.string P)
        obtain ⟨o2, k2⟩ := o1.set 2 (.string (C ++ ⟨#[46]⟩))
        have GG := grownBy_trans (grownBy_trans k0 k1) k2
        clear o0 o1 k0 k1 k2
        replace HS := Lib.hid (HS.out.grown GG (fun g e => by simp at e; omega))
        replace G := Lib.hid (grown_over G.out GG (Nat.le_refl _))
        have e0 := o2.cell (i := 0) (v := .int .i64 (n : Int)) rfl
        have e1 := o2.cell (i := 1) (v := .string P) rfl
        have e2 := o2.cell (i := 2) (v := .string (C ++ ⟨#[46]⟩)) rfl
        clear o2 GG V3 V2
        go_wp2
        refine bodyPost_ret (v := .agg #[.int .i64 (n : Int), .string P, .string (C ++ ⟨#[46]⟩)]) (by simp [results, Tryz.results109, go_sem, e0, e1, e2]) rfl ?_
        exact ⟨⟨(n : Int), P, (C ++ ⟨#[46]⟩)⟩, (show P.size ≤ 300 by omega), hs4, rfl, HS.out.mono (Nat.le_refl _) (by omega), G.out⟩
      · by_cases h3 : x = 3
        · subst h3
          go_upto_region 10 with fail
          have hx1 : 1 ≤ P.size := by omega
          have hx2 : (1 : Int) ≤ (P.size : Int) := by omega
          have hd : Below w4.heap.size w4 w4.drew := (Below.refl _ _).drew
          replace HS := Lib.hid (HS.out.kept hd)
          replace G := Lib.hid (grown_below G.out hd)
          replace V2 := Lib.hid (V2.out.kept hd)
          replace V3 := Lib.hid (V3.out.kept hd)
          clear hd
          refine wp_region_G 8 (fun W => W.cell? ⟨B3, 1, none⟩ = some (.string P)) (by kernel_rfl) (V3.out.cell (i := 1) rfl) (fun hHeld => ?_)
          clear hHeld
          generalize w4.drew = w6 at *
          refine slotG 0 32 (.pointer (some ⟨b, 0, none⟩)) ?_ (hS := fun _ => V3.out.cell (i := 1) rfl)
          simp only [S3]
          refine slotG 3 35 (.pointer (some ⟨B3, 1, none⟩)) ?_ (hS := fun _ => V3.out.cell (i := 1) rfl)
          simp only [S3]
          refine slotL 4 36 (.string P) ?_ (hw := waitsFor_of (by kernel_rfl)) (hq := by kernel_rfl) (hS := V3.out.cell (i := 1) rfl) (hy := Or.inl ⟨by rfl, fun w' hS => by have c9 : w'.cell? ⟨B3, 1, none⟩ = some (.string P) := hS; go_simp⟩)
          simp only [S3]
          refine slotG 5 37 (.string (P.extract 1 P.size)) ?_ (hS := fun _ => V3.out.cell (i := 1) rfl)
          simp only [S3]
          refine oneG 1 (by kernel_rfl) rfl (fun K hK => ?_)
          have hx : Below w6.heap.size w6 (w6.alloc (.cells (([⟨#[120]⟩, ⟨#[68]⟩, ⟨#[52]⟩, ⟨#[84]⟩] : List ByteArray).flatMap Str.enc).toArray 9)) := (Below.refl _ _).alloc (Nat.le_refl _) _
          have HC := Lib.hid (cells_new (enc := Str.enc) (sz := 1) (fun _ => rfl) w6 [⟨#[120]⟩, ⟨#[68]⟩, ⟨#[52]⟩, ⟨#[84]⟩] 9)
          have hlt6 := V3.out.lt
          replace HS := Lib.hid (HS.out.kept hx)
          replace G := Lib.hid (grown_below G.out hx)
          replace V2 := Lib.hid (V2.out.kept hx)
          replace V3 := Lib.hid (V3.out.kept hx)
          clear hx
          go_simp
          refine hK.out _ _ (fun _ => V3.out.cell (i := 1) rfl) (fun hHeld => ?_)
          clear hK K hHeld
          refine oneG 2 (by kernel_rfl) rfl (fun K hK => ?_)
          go_simp
          refine (text_any [⟨#[120]⟩, ⟨#[68]⟩, ⟨#[52]⟩, ⟨#[84]⟩] w6.heap.size 4 N b _ _ HS.out (by omega) HC.out (by decide) (by decide) (by omega)).mono ?_
          rintro e w7 ⟨x, hx, rfl, s7, g7⟩
          replace HS := Lib.hid s7
          replace G := Lib.hid (grownBy_trans G.out g7)
          replace V2 := Lib.hid (V2.out.grown g7 (by simp; omega))
          replace V3 := Lib.hid (V3.out.grown g7 (by simp; omega))
          clear g7 s7
          have hx4 := one_len hx (by rfl)
          clear hx HC
          go_wp2_with fail
          refine hK.out _ _ (fun _ => V3.out.cell (i := 1) rfl) (fun hHeld => ?_)
          clear hK K hHeld
          have hx5 := tail_le P
          have hx6 := front_le (p := P) hx4
          have hsz : x.size + (P.extract 1 P.size).size ≤ 9223372036854775807 := by omega
          clear hx4 hx5
          generalize P.extract 1 P.size = rest at *
          refine slotG 6 38 (.string (x ++ rest)) ?_ (hS := fun _ => V3.out.cell (i := 1) rfl)
          simp only [S3]
          generalize x ++ rest = np at *
          refine slotG 7 39 (.pointer (some ⟨B3, 1, none⟩)) ?_ (hS := fun _ => V3.out.cell (i := 1) rfl)
          simp only [S3]
          refine oneG 8 (by kernel_rfl) rfl (fun K hK => ?_)
          have y0 := V3.out.cell (i := 1) rfl
          have g0 := V3.out.free 1
          obtain ⟨o9, k9⟩ := V3.out.set 1 (.string np)
          replace HS := Lib.hid (HS.out.grown k9 (fun g e => by simp at e; omega))
          replace G := Lib.hid (grown_over G.out k9 (by omega))
          replace V2 := Lib.hid (V2.out.grown k9 (by simp; omega))
          replace V3 := Lib.hid o9
          clear o9 k9
          go_simp
          refine hK.out _ _ (fun h => absurd h (by decide)) (fun hHeld => ?_)
          clear hK K hHeld y0 g0
          generalize World.setCell w7 ⟨B3, 1, none⟩ (.string np) = wz at *
          refine doneG (by kernel_rfl) ?_ _
          have z0 := V3.out.cell (i := 0) rfl
          have z1 := V3.out.cell (i := 1) rfl
          have z2 := V3.out.cell (i := 2) rfl
          have c0 := V2.out.cell (i := 0) rfl
          have c1 := V2.out.cell (i := 1) rfl
          have c2 := V2.out.cell (i := 2) rfl
          have f0 := V2.out.free 0
          have f1 := V2.out.free 1
          have f2 := V2.out.free 2
          obtain ⟨o0, k0⟩ := V2.out.set 0 (.int .i64 (n : Int))
          obtain ⟨o1, k1⟩ := o0.set 1 (.string np)
          obtain ⟨o2, k2⟩ := o1.set 2 (.string C)
          have GG := grownBy_trans (grownBy_trans k0 k1) k2
          clear o0 o1 k0 k1 k2
          replace HS := Lib.hid (HS.out.grown GG (fun g e => by simp at e; omega))
          replace G := Lib.hid (grown_over G.out GG (Nat.le_refl _))
          have e0 := o2.cell (i := 0) (v := .int .i64 (n : Int)) rfl
          have e1 := o2.cell (i := 1) (v := .string np) rfl
          have e2 := o2.cell (i := 2) (v := .string C) rfl
          clear o2 GG V3 V2
          go_wp2
          refine bodyPost_ret (v := .agg #[.int .i64 (n : Int), .string np, .string C]) (by simp [results, Tryz.results109, go_sem, e0, e1, e2]) rfl ?_
          exact ⟨⟨(n : Int), np, C⟩, (show np.size ≤ 300 by omega), (show C.size ≤ 300 by omega), rfl, HS.out.mono (Nat.le_refl _) (by omega), G.out⟩
        · by_cases h4 : x = 4
          · subst h4
            go_upto_region 12 with fail
            have hx1 : 1 ≤ C.size := by omega
            have hx2 : (1 : Int) ≤ (C.size : Int) := by omega
            have hd : Below w4.heap.size w4 w4.drew := (Below.refl _ _).drew
            replace HS := Lib.hid (HS.out.kept hd)
            replace G := Lib.hid (grown_below G.out hd)
            replace V2 := Lib.hid (V2.out.kept hd)
            replace V3 := Lib.hid (V3.out.kept hd)
            clear hd
            refine wp_region_G 8 (fun W => W.cell? ⟨B3, 2, none⟩ = some (.string C)) (by kernel_rfl) (V3.out.cell (i := 2) rfl) (fun hHeld => ?_)
            clear hHeld
            generalize w4.drew = w6 at *
            refine slotG 0 42 (.pointer (some ⟨b, 0, none⟩)) ?_ (hS := fun _ => V3.out.cell (i := 2) rfl)
            simp only [S3]
            refine slotG 3 45 (.pointer (some ⟨B3, 2, none⟩)) ?_ (hS := fun _ => V3.out.cell (i := 2) rfl)
            simp only [S3]
            refine slotL 4 46 (.string C) ?_ (hw := waitsFor_of (by kernel_rfl)) (hq := by kernel_rfl) (hS := V3.out.cell (i := 2) rfl) (hy := Or.inl ⟨by rfl, fun w' hS => by have c9 : w'.cell? ⟨B3, 2, none⟩ = some (.string C) := hS; go_simp⟩)
            simp only [S3]
            refine slotG 5 47 (.string (C.extract 1 C.size)) ?_ (hS := fun _ => V3.out.cell (i := 2) rfl)
            simp only [S3]
            refine oneG 1 (by kernel_rfl) rfl (fun K hK => ?_)
            have hx : Below w6.heap.size w6 (w6.alloc (.cells (([⟨#[63]⟩, ⟨#[49]⟩, ⟨#[32]⟩, ⟨#[65]⟩] : List ByteArray).flatMap Str.enc).toArray 9)) := (Below.refl _ _).alloc (Nat.le_refl _) _
            have HC := Lib.hid (cells_new (enc := Str.enc) (sz := 1) (fun _ => rfl) w6 [⟨#[63]⟩, ⟨#[49]⟩, ⟨#[32]⟩, ⟨#[65]⟩] 9)
            have hlt6 := V3.out.lt
            replace HS := Lib.hid (HS.out.kept hx)
            replace G := Lib.hid (grown_below G.out hx)
            replace V2 := Lib.hid (V2.out.kept hx)
            replace V3 := Lib.hid (V3.out.kept hx)
            clear hx
            go_simp
            refine hK.out _ _ (fun _ => V3.out.cell (i := 2) rfl) (fun hHeld => ?_)
            clear hK K hHeld
            refine oneG 2 (by kernel_rfl) rfl (fun K hK => ?_)
            go_simp
            refine (text_any [⟨#[63]⟩, ⟨#[49]⟩, ⟨#[32]⟩, ⟨#[65]⟩] w6.heap.size 4 N b _ _ HS.out (by omega) HC.out (by decide) (by decide) (by omega)).mono ?_
            rintro e w7 ⟨x, hx, rfl, s7, g7⟩
            replace HS := Lib.hid s7
            replace G := Lib.hid (grownBy_trans G.out g7)
            replace V2 := Lib.hid (V2.out.grown g7 (by simp; omega))
            replace V3 := Lib.hid (V3.out.grown g7 (by simp; omega))
            clear g7 s7
            have hx4 := one_len hx (by rfl)
            clear hx HC
            go_wp2_with fail
            refine hK.out _ _ (fun _ => V3.out.cell (i := 2) rfl) (fun hHeld => ?_)
            clear hK K hHeld
            have hx5 := tail_le C
            have hx6 := front_le (p := C) hx4
            have hsz : x.size + (C.extract 1 C.size).size ≤ 9223372036854775807 := by omega
            clear hx4 hx5
            generalize C.extract 1 C.size = rest at *
            refine slotG 6 48 (.string (x ++ rest)) ?_ (hS := fun _ => V3.out.cell (i := 2) rfl)
            simp only [S3]
            generalize x ++ rest = np at *
            refine slotG 7 49 (.pointer (some ⟨B3, 2, none⟩)) ?_ (hS := fun _ => V3.out.cell (i := 2) rfl)
            simp only [S3]
            refine oneG 8 (by kernel_rfl) rfl (fun K hK => ?_)
            have y0 := V3.out.cell (i := 2) rfl
            have g0 := V3.out.free 2
            obtain ⟨o9, k9⟩ := V3.out.set 2 (.string np)
            replace HS := Lib.hid (HS.out.grown k9 (fun g e => by simp at e; omega))
            replace G := Lib.hid (grown_over G.out k9 (by omega))
            replace V2 := Lib.hid (V2.out.grown k9 (by simp; omega))
            replace V3 := Lib.hid o9
            clear o9 k9
            go_simp
            refine hK.out _ _ (fun h => absurd h (by decide)) (fun hHeld => ?_)
            clear hK K hHeld y0 g0
            generalize World.setCell w7 ⟨B3, 2, none⟩ (.string np) = wz at *
            refine doneG (by kernel_rfl) ?_ _
            have z0 := V3.out.cell (i := 0) rfl
            have z1 := V3.out.cell (i := 1) rfl
            have z2 := V3.out.cell (i := 2) rfl
            have c0 := V2.out.cell (i := 0) rfl
            have c1 := V2.out.cell (i := 1) rfl
            have c2 := V2.out.cell (i := 2) rfl
            have f0 := V2.out.free 0
            have f1 := V2.out.free 1
            have f2 := V2.out.free 2
            obtain ⟨o0, k0⟩ := V2.out.set 0 (.int .i64 (n : Int))
            obtain ⟨o1, k1⟩ := o0.set 1 (.string P)
            obtain ⟨o2, k2⟩ := o1.set 2 (.string np)
            have GG := grownBy_trans (grownBy_trans k0 k1) k2
            clear o0 o1 k0 k1 k2
            replace HS := Lib.hid (HS.out.grown GG (fun g e => by simp at e; omega))
            replace G := Lib.hid (grown_over G.out GG (Nat.le_refl _))
            have e0 := o2.cell (i := 0) (v := .int .i64 (n : Int)) rfl
            have e1 := o2.cell (i := 1) (v := .string P) rfl
            have e2 := o2.cell (i := 2) (v := .string np) rfl
            clear o2 GG V3 V2
            go_wp2
            refine bodyPost_ret (v := .agg #[.int .i64 (n : Int), .string P, .string np]) (by simp [results, Tryz.results109, go_sem, e0, e1, e2]) rfl ?_
            exact ⟨⟨(n : Int), P, np⟩, (show P.size ≤ 300 by omega), (show np.size ≤ 300 by omega), rfl, HS.out.mono (Nat.le_refl _) (by omega), G.out⟩
          · by_cases h55 : x = 5
            · subst h55
              have hlt4 := V3.out.lt
              have hx : Below w4.heap.size w4 (w4.alloc (.cells (([11, 12, 15] : List Int).flatMap I64.enc).toArray 2)) := (Below.refl _ _).alloc (Nat.le_refl _) _
              have HC := Lib.hid (cells_new (enc := I64.enc) (sz := 1) (fun _ => rfl) w4 [11, 12, 15] 2)
              replace HS := Lib.hid (HS.out.kept hx)
              replace G := Lib.hid (grown_below G.out hx)
              replace V2 := Lib.hid (V2.out.kept hx)
              replace V3 := Lib.hid (V3.out.kept hx)
              clear hx
              go_wp2_with fail
              refine (among_any [11, 12, 15] w4.heap.size 3 N b _ _ HS.out (by omega) HC.out (by decide) (by decide) (by omega)).mono ?_
              rintro e w5 ⟨s, hx, rfl, s5, g5⟩
              replace HS := Lib.hid s5
              replace G := Lib.hid (grownBy_trans G.out g5)
              replace V2 := Lib.hid (V2.out.grown g5 (by simp; omega))
              replace V3 := Lib.hid (V3.out.grown g5 (by simp; omega))
              clear g5 s5
              obtain ⟨m, rfl, m11, m15⟩ := among_big hx
              clear HC hx hlt4
              obtain ⟨q, hq⟩ : ∃ q : Nat, q = m * m := ⟨_, rfl⟩
              have hqi : (m : Int) * (m : Int) = (q : Int) := by rw [hq]; push_cast; rfl
              have hq2 : q ≤ 225 := by rw [hq]; exact Nat.mul_le_mul m15 m15
              have hq3 : 121 ≤ q := by rw [hq]; exact Nat.mul_le_mul m11 m11
              clear hq
              obtain ⟨r, hr⟩ : ∃ r : Nat, r = q - 120 := ⟨_, rfl⟩
              have hw : IntKind.i64.wrap (q : Int) = q := IntWalk.i64_in _ (by omega)
              have hw2 : IntKind.i64.wrap ((q : Int) - 120) = (r : Int) := by rw [IntWalk.i64_in _ (by omega)]; omega
              have hr2 : r ≤ 105 := by omega
              clear hr
              have HR1 := Lib.hid (fun W => HRP.out 50 q W (by omega))
              have HR2 := Lib.hid (fun W => HRP.out 101 120 W (by omega))
              have HR3 := Lib.hid (fun W => HRP.out 46 r W (by omega))
              have s1 : (mkB (List.replicate q (50 : UInt8))).size = q := by rw [mkB_size, List.length_replicate]
              have s2 : (mkB (List.replicate 120 (101 : UInt8))).size = 120 := by rw [mkB_size, List.length_replicate]
              have s3 : (mkB (List.replicate r (46 : UInt8))).size = r := by rw [mkB_size, List.length_replicate]
              generalize mkB (List.replicate q (50 : UInt8)) = p1 at *
              generalize mkB (List.replicate 120 (101 : UInt8)) = p2 at *
              generalize mkB (List.replicate r (46 : UInt8)) = p3 at *
              have hsz : p2.size + p3.size ≤ 9223372036854775807 := by omega
              have s4 : (p2 ++ p3).size ≤ 300 := by rw [ByteArray.size_append]; omega
              clear HRP
              go_wp2_with fail
              refine (HR1.out _).mono ?_
              rintro e w6 ⟨rfl, hd⟩
              replace HS := Lib.hid (HS.out.kept hd)
              replace G := Lib.hid (grown_below G.out hd)
              replace V2 := Lib.hid (V2.out.kept hd)
              replace V3 := Lib.hid (V3.out.kept hd)
              clear hd
              go_wp2_with fail
              refine (HR2.out _).mono ?_
              rintro e w7 ⟨rfl, hd⟩
              replace HS := Lib.hid (HS.out.kept hd)
              replace G := Lib.hid (grown_below G.out hd)
              replace V2 := Lib.hid (V2.out.kept hd)
              replace V3 := Lib.hid (V3.out.kept hd)
              clear hd
              go_wp2_with fail
              refine (HR3.out _).mono ?_
              rintro e w8 ⟨rfl, hd⟩
              replace HS := Lib.hid (HS.out.kept hd)
              replace G := Lib.hid (grown_below G.out hd)
              replace V2 := Lib.hid (V2.out.kept hd)
              replace V3 := Lib.hid (V3.out.kept hd)
              clear hd
              have i0 := V3.out.cell (i := 0) rfl
              have i1 := V3.out.cell (i := 1) rfl
              have i2 := V3.out.cell (i := 2) rfl
              have j0 := V3.out.free 0
              have j1 := V3.out.free 1
              have j2 := V3.out.free 2
              obtain ⟨q0, k0⟩ := V3.out.set 0 (.int .i64 (m : Int))
              obtain ⟨q1, k1⟩ := q0.set 1 (.string p1)
              obtain ⟨q2, k2⟩ := q1.set 2 (.string (p2 ++ p3))
              have k9 := grownBy_trans (grownBy_trans k0 k1) k2
              replace HS := Lib.hid (HS.out.grown k9 (fun g e => by simp at e; omega))
              replace G := Lib.hid (grown_over G.out k9 (by omega))
              replace V2 := Lib.hid (V2.out.grown k9 (by simp; omega))
              replace V3 := Lib.hid q2
              clear q0 q1 q2 k0 k1 k2 k9 HR1 HR2 HR3
              have z0 := V3.out.cell (i := 0) rfl
              have z1 := V3.out.cell (i := 1) rfl
              have z2 := V3.out.cell (i := 2) rfl
              have c0 := V2.out.cell (i := 0) rfl
              have c1 := V2.out.cell (i := 1) rfl
              have c2 := V2.out.cell (i := 2) rfl
              have f0 := V2.out.free 0
              have f1 := V2.out.free 1
              have f2 := V2.out.free 2
              obtain ⟨o0, k0⟩ := V2.out.set 0 (.int .i64 (m : Int))
              obtain ⟨o1, k1⟩ := o0.set 1 (.string p1)
              obtain ⟨o2, k2⟩ := o1.set 2 (.string (p2 ++ p3))
              have GG := grownBy_trans (grownBy_trans k0 k1) k2
              clear o0 o1 k0 k1 k2
              replace HS := Lib.hid (HS.out.grown GG (fun g e => by simp at e; omega))
              replace G := Lib.hid (grown_over G.out GG (Nat.le_refl _))
              have e0 := o2.cell (i := 0) (v := .int .i64 (m : Int)) rfl
              have e1 := o2.cell (i := 1) (v := .string p1) rfl
              have e2 := o2.cell (i := 2) (v := .string (p2 ++ p3)) rfl
              clear o2 GG V3 V2
              go_wp2
              refine bodyPost_ret (v := .agg #[.int .i64 (m : Int), .string p1, .string (p2 ++ p3)]) (by simp [results, Tryz.results109, go_sem, e0, e1, e2]) rfl ?_
              exact ⟨⟨(m : Int), p1, (p2 ++ p3)⟩, (show p1.size ≤ 300 by omega), s4, rfl, HS.out.mono (Nat.le_refl _) (by omega), G.out⟩
            · have e0 : (x == 0) = false := by simpa using h0
              have e1 : (x == 1) = false := by simpa using h1
              have e2 : (x == 2) = false := by simpa using h2
              have e3 : (x == 3) = false := by simpa using h3
              have e4 : (x == 4) = false := by simpa using h4
              have e5 : (x == 5) = false := by simpa using h55
              have z0 := V3.out.cell (i := 0) rfl
              have z1 := V3.out.cell (i := 1) rfl
              have z2 := V3.out.cell (i := 2) rfl
              have c0 := V2.out.cell (i := 0) rfl
              have c1 := V2.out.cell (i := 1) rfl
              have c2 := V2.out.cell (i := 2) rfl
              have f0 := V2.out.free 0
              have f1 := V2.out.free 1
              have f2 := V2.out.free 2
              obtain ⟨o0, k0⟩ := V2.out.set 0 (.int .i64 (n : Int))
              obtain ⟨o1, k1⟩ := o0.set 1 (.string P)
              obtain ⟨o2, k2⟩ := o1.set 2 (.string C)
              have GG := grownBy_trans (grownBy_trans k0 k1) k2
              clear o0 o1 k0 k1 k2
              replace HS := Lib.hid (HS.out.grown GG (fun g e => by simp at e; omega))
              replace G := Lib.hid (grown_over G.out GG (Nat.le_refl _))
              have e0 := o2.cell (i := 0) (v := .int .i64 (n : Int)) rfl
              have e1 := o2.cell (i := 1) (v := .string P) rfl
              have e2 := o2.cell (i := 2) (v := .string C) rfl
              clear o2 GG V3 V2
              go_wp2
              refine bodyPost_ret (v := .agg #[.int .i64 (n : Int), .string P, .string C]) (by simp [results, Tryz.results109, go_sem, e0, e1, e2]) rfl ?_
              exact ⟨⟨(n : Int), P, C⟩, (show P.size ≤ 300 by omega), (show C.size ≤ 300 by omega), rfl, HS.out.mono (Nat.le_refl _) (by omega), G.out⟩
end Go.Proofs.YtjdcdhhbgijaoaaGreatDoor
