/- Contracts: the reference's empty board, and the board that it draws. Of what is drawn nothing is said but that it is valid and has at most nine rows. -/
import Derived.Test.YtjdcdhhbgijaoaaGreatDoorDrA
import Derived.Test.YtjdcdhhbgijaoaaGreatDoorDbD
import Derived.Test.YtjdcdhhbgijaoaaGreatDoorDgS
import Derived.Deep.RegionLaw
namespace Go.Proofs.YtjdcdhhbgijaoaaGreatDoor
open Go.ChangeShapes Go.WideShapes Go.ChangeAt Go.RowKit Go.Sort

/-! ### Plain -/
theorem stdB_prem (n r c : Int) : premB ((stdB n r c).toNat : Int) = true := by
  rw [stdB_val]
  unfold stdC stdA
  (repeat' split) <;> rfl
theorem all_rep (p : UInt8 → Bool) (c : UInt8) (m : Nat) (h : p c = true) : (List.replicate m c).all p = true := by
  rw [List.all_eq_true]
  intro x hx
  rw [(List.mem_replicate.1 hx).2]
  exact h
theorem std_good {n : Nat} (h5 : 5 ≤ n) (h15 : n ≤ 15) : (⟨(n : Int), mkB (stdL n), mkB (List.replicate (n * n) 46)⟩ : Brd).Good n := by
  refine ⟨rfl, h5, h15, ?_, ?_, ?_, ?_⟩
  · show (mkB _).size = _
    rw [mkB_size, stdL_len]
  · show (mkB _).size = _
    rw [mkB_size, List.length_replicate]
  · unfold allP
    show (mkB _).data.toList.all _ = true
    rw [mkB_data, List.all_eq_true]
    intro x hx
    unfold stdL at hx
    obtain ⟨k, _, rfl⟩ := List.mem_map.1 hx
    exact stdB_prem _ _ _
  · unfold allC
    show (mkB _).data.toList.all _ = true
    rw [mkB_data]
    exact all_rep _ _ _ rfl
theorem emp_good {n : Nat} (h5 : 5 ≤ n) (h15 : n ≤ 15) : (⟨(n : Int), mkB (List.replicate (n * n) 46), mkB (List.replicate (n * n) 46)⟩ : Brd).Good n := by
  refine ⟨rfl, h5, h15, ?_, ?_, ?_, ?_⟩
  · show (mkB _).size = _
    rw [mkB_size, List.length_replicate]
  · show (mkB _).size = _
    rw [mkB_size, List.length_replicate]
  · unfold allP
    show (mkB _).data.toList.all _ = true
    rw [mkB_data]
    exact all_rep _ _ _ rfl
  · unfold allC
    show (mkB _).data.toList.all _ = true
    rw [mkB_data]
    exact all_rep _ _ _ rfl
theorem among_size {x : Int} (h : x ∈ ([5, 7, 7, 9, 6] : List Int)) : ∃ n : Nat, x = n ∧ 5 ≤ n ∧ n ≤ 9 := by
  simp only [List.mem_cons, List.not_mem_nil, or_false] at h
  rcases h with rfl | rfl | rfl | rfl | rfl
  · exact ⟨5, rfl, by decide, by decide⟩
  · exact ⟨7, rfl, by decide, by decide⟩
  · exact ⟨7, rfl, by decide, by decide⟩
  · exact ⟨9, rfl, by decide, by decide⟩
  · exact ⟨6, rfl, by decide, by decide⟩
theorem word_ok {x : ByteArray} {xs : List ByteArray} (h : x ∈ xs) (ha : xs.all (fun s => decide (s.size ≤ 20) && allLet s) = true) : x.size ≤ 20 ∧ allLet x = true := by
  have := List.all_eq_true.1 ha x h
  rw [Bool.and_eq_true, decide_eq_true_eq] at this
  exact this
set_option maxRecDepth 100000 in
set_option maxHeartbeats 4000000 in
theorem specEmpty_any (n : Nat) (w : World) (h5 : 5 ≤ n) (h15 : n ≤ 15) :
    Calls Tryz.prog 33 #[.int .i64 n] w fun e w' => e = .returned (.tuple #[.agg #[.int .i64 n, .string (mkB (List.replicate (n * n) 46)), .string (mkB (List.replicate (n * n) 46))], .int .i64 0]) ∧ Below w.heap.size w w' := by
  have hb : Below w.heap.size w (w.alloc (.cells #[.int .i64 0, .string ⟨#[]⟩, .string ⟨#[]⟩] 25)) := (Below.refl _ _).alloc (Nat.le_refl _) _
  have V0 := Lib.hid (VarAt.new w 25 [.int .i64 0, .string ⟨#[]⟩, .string ⟨#[]⟩])
  have HSZ : Hid (∀ W, Calls Tryz.prog 100 #[.int .i64 n] W fun e w' => e = .returned (.bool true) ∧ W = w') := Lib.hid (fun W => by
    have := l11Size_any n W
    rwa [show withinB (n : Int) 5 15 = true from within_iff.2 ⟨by omega, by omega⟩] at this)
  obtain ⟨q, hq⟩ : ∃ q : Nat, q = n * n := ⟨_, rfl⟩
  have hqi : (n : Int) * (n : Int) = (q : Int) := by rw [hq]; push_cast; rfl
  have hq2 : q ≤ 225 := by rw [hq]; exact Nat.mul_le_mul h15 h15
  rw [← hq]
  have HRP : Hid (∀ W, Calls Tryz.prog 101 #[.int .u8 46, .int .i64 (q : Int)] W fun e w' => e = .returned (.string (mkB (List.replicate q 46))) ∧ Below W.heap.size W w') := Lib.hid (fun W => l02Repeat_any 46 q W (by omega))
  have hw : IntKind.i64.wrap (q : Int) = q := IntWalk.i64_in _ (by omega)
  clear hq
  generalize mkB (List.replicate q 46) = free at *
  go_enter Tryz.func33, Tryz.ntmps33
  go_upto_region 1 with fail
  generalize w.alloc (.cells #[.int .i64 0, .string ⟨#[]⟩, .string ⟨#[]⟩] 25) = w1 at *
  go_wp2_with fail
  refine (HSZ.out _).mono ?_
  rintro e w2 ⟨rfl, rfl⟩
  clear HSZ
  go_wp2_with fail
  refine (HRP.out _).mono ?_
  rintro e w3 ⟨rfl, hd⟩
  replace hb := hb.trans (hd.mono hb.size)
  replace V0 := Lib.hid (V0.out.kept hd)
  clear hd
  go_wp2_with fail
  refine (HRP.out _).mono ?_
  rintro e w4 ⟨rfl, hd⟩
  replace hb := hb.trans (hd.mono hb.size)
  replace V0 := Lib.hid (V0.out.kept hd)
  clear hd
  clear HRP
  have c0 := V0.out.cell (i := 0) rfl
  have c1 := V0.out.cell (i := 1) rfl
  have c2 := V0.out.cell (i := 2) rfl
  have f0 := V0.out.free 0
  have f1 := V0.out.free 1
  have f2 := V0.out.free 2
  obtain ⟨o0, k0⟩ := V0.out.set 0 (.int .i64 (n : Int))
  obtain ⟨o1, k1⟩ := o0.set 1 (.string free)
  obtain ⟨o2, k2⟩ := o1.set 2 (.string free)
  have GG := grownBy_trans (grownBy_trans k0 k1) k2
  clear o0 o1 k0 k1 k2
  have hb9 := hb.grown GG hb.size (fun q h => by cases h; exact Nat.le_refl _)
  have e0 := o2.cell (i := 0) (v := .int .i64 (n : Int)) rfl
  have e1 := o2.cell (i := 1) (v := .string free) rfl
  have e2 := o2.cell (i := 2) (v := .string free) rfl
  clear o2 GG
  go_wp2
  refine bodyPost_ret (v := .tuple #[.agg #[.int .i64 n, .string free, .string free], .int .i64 0]) (by simp [results, Tryz.results33, go_sem, e0, e1, e2]) rfl ?_
  exact ⟨rfl, hb9⟩
/-- a valid board of at most nine rows is drawn; the source goes on -/
def BoardDrawn (w : World) (N b k : Nat) (e : Ending) (w' : World) : Prop :=
  ∃ (n : Nat) (bd : Brd), bd.Good n ∧ n ≤ 9 ∧ e = .returned (.agg #[.int .i64 n, .string bd.premium, .string bd.cells]) ∧ SrcAt w' N b k ∧ w.grownBy w' (some b)
set_option maxRecDepth 100000 in
set_option maxHeartbeats 4000000 in
theorem l11Draw_any (N b k : Nat) (w : World) (hs : SrcAt w N b k) (hk : k < 536870912) (hN : N ≤ w.heap.size) :
    Calls Tryz.prog 105 #[.pointer (some ⟨b, 0, none⟩)] w (BoardDrawn w N b (k + 40)) := by
  have hbN := hs.lt
  have hb : Below w.heap.size w (w.alloc (.cells #[.int .i64 0, .string ⟨#[]⟩, .string ⟨#[]⟩] 25)) := (Below.refl _ _).alloc (Nat.le_refl _) _
  have HS := Lib.hid (hs.kept hb)
  have G := Lib.hid (grown_of_below (row := some b) hb)
  have V2 := Lib.hid (VarAt.new w 25 [.int .i64 0, .string ⟨#[]⟩, .string ⟨#[]⟩])
  have hz1 : (w.alloc (.cells #[.int .i64 0, .string ⟨#[]⟩, .string ⟨#[]⟩] 25)).heap.size = w.heap.size + 1 := by simp
  clear hs hb
  go_enter Tryz.func105, Tryz.ntmps105
  go_upto_region 1 with fail
  generalize w.alloc (.cells #[.int .i64 0, .string ⟨#[]⟩, .string ⟨#[]⟩] 25) = w1 at *
  have hx : Below w1.heap.size w1 (w1.alloc (.cells (([5, 7, 7, 9, 6] : List Int).flatMap I64.enc).toArray 2)) := (Below.refl _ _).alloc (Nat.le_refl _) _
  have HC := Lib.hid (cells_new (enc := I64.enc) (sz := 1) (fun _ => rfl) w1 [5, 7, 7, 9, 6] 2)
  replace HS := Lib.hid (HS.out.kept hx)
  replace G := Lib.hid (grown_below G.out hx)
  replace V2 := Lib.hid (V2.out.kept hx)
  have HZ1 := Lib.hid hz1
  clear hx hz1
  go_wp2_with fail
  have hz1 := HZ1.out
  clear HZ1
  refine (among_any [5, 7, 7, 9, 6] w1.heap.size 5 N b _ _ HS.out (by omega) HC.out (by decide) (by decide) (by omega)).mono ?_
  rintro e w2 ⟨x, hx, rfl, s2, g2⟩
  obtain ⟨n, rfl, h5, h9⟩ := among_size hx
  have hz2 : w.heap.size + 1 < w2.heap.size := by have := g2.size; simp at this; omega
  replace HS := Lib.hid s2
  replace G := Lib.hid (grownBy_trans G.out g2)
  replace V2 := Lib.hid (V2.out.grown g2 (by simp; omega))
  clear s2 g2 hx HC hz1
  have HSTD : Hid (∀ W, Calls Tryz.prog 197 #[.int .i64 (n : Int)] W fun e w' => e = .returned (.tuple #[.agg #[.int .i64 n, .string (mkB (stdL n)), .string (mkB (List.replicate (n * n) 46))], .int .i64 0]) ∧ Below W.heap.size W w') := Lib.hid (fun W => by
    have := specStandardBoard_any n W
    unfold stdBoard at this
    rw [if_pos (within_iff.2 ⟨by omega, by omega⟩)] at this
    exact this)
  have HEMP : Hid (∀ W, Calls Tryz.prog 33 #[.int .i64 (n : Int)] W fun e w' => e = .returned (.tuple #[.agg #[.int .i64 n, .string (mkB (List.replicate (n * n) 46)), .string (mkB (List.replicate (n * n) 46))], .int .i64 0]) ∧ Below W.heap.size W w') := Lib.hid (fun W => specEmpty_any n W h5 (by omega))
  have HGD := Lib.hid (std_good h5 (show n ≤ 15 by omega))
  have HGE := Lib.hid (emp_good h5 (show n ≤ 15 by omega))
  generalize mkB (stdL n) = P1 at *
  generalize mkB (List.replicate (n * n) 46) = C1 at *
  have HLY : Hid (∀ (P C : ByteArray) (row col : Int) (down : Bool) (word : ByteArray) (W : World), (⟨n, P, C⟩ : Brd).Good n → (0 ≤ row ∧ row ≤ 100) → (0 ≤ col ∧ col ≤ 100) → (word.size ≤ 20 ∧ allLet word = true) → Calls Tryz.prog 198 #[.agg #[.int .i64 (n : Int), .string P, .string C], .int .i64 row, .int .i64 col, .bool down, .string word] W (GoodBack n W)) := Lib.hid (fun P C row col down word W h1 h2 h3 h4 => l11Lay_any ⟨n, P, C⟩ n row col down word W h1 h2 h3 h4.1 h4.2)
  go_wp2_with fail
  refine (HSTD.out _).mono ?_
  rintro e w3 ⟨rfl, hd⟩
  have hz3 : w.heap.size + 1 < w3.heap.size := Nat.lt_of_lt_of_le hz2 hd.size
  replace HS := Lib.hid (HS.out.kept hd)
  replace G := Lib.hid (grown_below G.out hd)
  replace V2 := Lib.hid (V2.out.kept hd)
  clear hd HSTD hz2
  have hx : Below w3.heap.size w3 (w3.alloc (.cells #[.int .i64 (n : Int), .string P1, .string C1] 25)) := (Below.refl _ _).alloc (Nat.le_refl _) _
  have V4 := Lib.hid (VarAt.new w3 25 [.int .i64 (n : Int), .string P1, .string C1])
  replace HS := Lib.hid (HS.out.kept hx)
  replace G := Lib.hid (grown_below G.out hx)
  replace V2 := Lib.hid (V2.out.kept hx)
  clear hx
  generalize hB : w3.heap.size = B4 at *
  go_wp2_with fail
  clear hB
  refine (one_any 4 N b _ _ HS.out (by omega)).mono ?_
  rintro e w4 ⟨y4, rfl, s4, g4⟩
  replace HS := Lib.hid s4
  replace G := Lib.hid (grownBy_trans G.out g4)
  replace V2 := Lib.hid (V2.out.grown g4 (by simp; omega))
  replace V4 := Lib.hid (V4.out.grown g4 (by simp; omega))
  clear g4 s4
  cases y4 with
  | false =>
    clear HEMP HGE
    go_wp2_with fail
    refine (one_any 5 N b _ _ HS.out (by omega)).mono ?_
    rintro e w5 ⟨y5, rfl, s5, g5⟩
    replace HS := Lib.hid s5
    replace G := Lib.hid (grownBy_trans G.out g5)
    replace V2 := Lib.hid (V2.out.grown g5 (by simp; omega))
    replace V4 := Lib.hid (V4.out.grown g5 (by simp; omega))
    clear g5 s5
    cases y5 with
    | true =>
      have z0 := V4.out.cell (i := 0) rfl
      have z1 := V4.out.cell (i := 1) rfl
      have z2 := V4.out.cell (i := 2) rfl
      have c0 := V2.out.cell (i := 0) rfl
      have c1 := V2.out.cell (i := 1) rfl
      have c2 := V2.out.cell (i := 2) rfl
      have f0 := V2.out.free 0
      have f1 := V2.out.free 1
      have f2 := V2.out.free 2
      obtain ⟨o0, k0⟩ := V2.out.set 0 (.int .i64 (n : Int))
      obtain ⟨o1, k1⟩ := o0.set 1 (.string P1)
      obtain ⟨o2, k2⟩ := o1.set 2 (.string C1)
      have GG := grownBy_trans (grownBy_trans k0 k1) k2
      clear o0 o1 k0 k1 k2
      replace HS := Lib.hid (HS.out.grown GG (fun g e => by simp at e; omega))
      replace G := Lib.hid (grown_over G.out GG (Nat.le_refl _))
      have e0 := o2.cell (i := 0) (v := .int .i64 (n : Int)) rfl
      have e1 := o2.cell (i := 1) (v := .string P1) rfl
      have e2 := o2.cell (i := 2) (v := .string C1) rfl
      clear o2 GG V4 V2
      go_wp2
      refine bodyPost_ret (v := .agg #[.int .i64 n, .string P1, .string C1]) (by simp [results, Tryz.results105, go_sem, e0, e1, e2]) rfl ?_
      exact ⟨n, ⟨n, P1, C1⟩, HGD.out, h9, rfl, HS.out.mono (Nat.le_refl _) (by omega), G.out⟩
    | false =>
      go_upto_region 7 with fail
      have hd : Below w5.heap.size w5 w5.drew := (Below.refl _ _).drew
      replace HS := Lib.hid (HS.out.kept hd)
      replace G := Lib.hid (grown_below G.out hd)
      replace V2 := Lib.hid (V2.out.kept hd)
      replace V4 := Lib.hid (V4.out.kept hd)
      clear hd
      refine wp_region_G 6 (fun W => W.rangeAt B4 0 [.int .i64 (n : Int), .string P1, .string C1]) (by kernel_rfl) V4.out.range (fun hHeld => ?_)
      clear hHeld
      generalize w5.drew = w6 at *
      refine slotL 0 28 (.agg #[.int .i64 (n : Int), .string P1, .string C1]) ?_ (hw := waitsFor_of (by kernel_rfl)) (hq := by kernel_rfl) (hS := V4.out.range) (hy := yieldsIf_load_mid (by rfl) 25 _ rfl B4 0 rfl [.int .i64 (n : Int), .string P1, .string C1] _ (fun w' hS => hS) Tryz.underlying25 rfl (by kernel_rfl))
      simp only [S3]
      refine slotG 1 29 (.int .i64 (n : Int)) ?_ (hS := fun _ => V4.out.range)
      simp only [S3]
      have wq : IntKind.i64.wrap ((n : Int) / 2) = (n : Int) / 2 := IntWalk.i64_in _ (by omega)
      refine slotG 2 30 (.int .i64 ((n : Int) / 2)) ?_ (hS := fun _ => V4.out.range)
      simp only [S3]
      refine slotG 3 31 (.pointer (some ⟨b, 0, none⟩)) ?_ (hS := fun _ => V4.out.range)
      simp only [S3]
      refine oneG 4 (by kernel_rfl) rfl (fun K hK => ?_)
      have hx : Below w6.heap.size w6 (w6.alloc (.cells (([⟨#[116, 101, 115, 116, 115]⟩, ⟨#[101, 65, 116, 101, 110]⟩, ⟨#[116, 101, 110]⟩, ⟨#[97, 114, 101, 110, 97]⟩, ⟨#[110, 101, 115, 116, 115]⟩] : List ByteArray).flatMap Str.enc).toArray 9)) := (Below.refl _ _).alloc (Nat.le_refl _) _
      have HC := Lib.hid (cells_new (enc := Str.enc) (sz := 1) (fun _ => rfl) w6 [⟨#[116, 101, 115, 116, 115]⟩, ⟨#[101, 65, 116, 101, 110]⟩, ⟨#[116, 101, 110]⟩, ⟨#[97, 114, 101, 110, 97]⟩, ⟨#[110, 101, 115, 116, 115]⟩] 9)
      have hlt6 := V4.out.lt
      replace HS := Lib.hid (HS.out.kept hx)
      replace G := Lib.hid (grown_below G.out hx)
      replace V2 := Lib.hid (V2.out.kept hx)
      replace V4 := Lib.hid (V4.out.kept hx)
      clear hx
      go_simp
      refine hK.out _ _ (fun _ => V4.out.range) (fun hHeld => ?_)
      clear hK K hHeld
      refine oneG 5 (by kernel_rfl) rfl (fun K hK => ?_)
      go_simp
      refine (text_any [⟨#[116, 101, 115, 116, 115]⟩, ⟨#[101, 65, 116, 101, 110]⟩, ⟨#[116, 101, 110]⟩, ⟨#[97, 114, 101, 110, 97]⟩, ⟨#[110, 101, 115, 116, 115]⟩] w6.heap.size 5 N b _ _ HS.out (by omega) HC.out (by decide) (by decide) (by omega)).mono ?_
      rintro e w7 ⟨word, hword, rfl, s7, g7⟩
      replace HS := Lib.hid s7
      replace G := Lib.hid (grownBy_trans G.out g7)
      replace V2 := Lib.hid (V2.out.grown g7 (by simp; omega))
      replace V4 := Lib.hid (V4.out.grown g7 (by simp; omega))
      clear g7 s7
      have HWD := word_ok hword (by rfl)
      clear hword HC
      go_wp2_with fail
      refine hK.out _ _ (fun _ => V4.out.range) (fun hHeld => ?_)
      clear hK K hHeld
      refine oneG 6 (by kernel_rfl) rfl (fun K hK => ?_)
      go_simp
      refine (HLY.out P1 C1 ((n : Int) / 2) 0 false word _ HGD.out ⟨by omega, by omega⟩ ⟨by omega, by omega⟩ HWD).mono ?_
      rintro e w8 ⟨⟨z2, P2, C2⟩, hg2, rfl, hd⟩
      replace HS := Lib.hid (HS.out.kept hd)
      replace G := Lib.hid (grown_below G.out hd)
      replace V2 := Lib.hid (V2.out.kept hd)
      replace V4 := Lib.hid (V4.out.kept hd)
      clear hd
      obtain rfl : z2 = (n : Int) := hg2.size
      go_wp2_with fail
      refine hK.out _ _ (fun _ => V4.out.range) (fun hHeld => ?_)
      clear hK K hHeld HGD HWD
      have HGD := Lib.hid hg2
      clear hg2
      refine oneG 7 (by kernel_rfl) rfl (fun K hK => ?_)
      obtain ⟨o2, GG⟩ := V4.out.put [.int .i64 (n : Int), .string P2, .string C2] rfl
      have tR := V4.out.there (n := 3) rfl
      refine mk_store rfl rfl 25 (.tmp 4) (.tmp 34) rfl B4 0 #[.int .i64 (n : Int), .string P2, .string C2] rfl rfl tR (by kernel_rfl) (by simp [Value.oneCell']) ?_
      refine hK.out _ _ (fun h => absurd h (by decide)) (fun hHeld => ?_)
      clear hK K hHeld tR
      change wpAnyG _ _ _ _ _ _ _ _ _ (World.setCells _ B4 0 [.int .i64 (n : Int), .string P2, .string C2])
      replace HS := Lib.hid (HS.out.grown GG (fun g e => by simp at e; omega))
      replace G := Lib.hid (grown_over G.out GG (by omega))
      replace V2 := Lib.hid (V2.out.grown GG (by simp; omega))
      replace V4 := Lib.hid o2
      clear o2 GG
      generalize World.setCells _ B4 0 [.int .i64 (n : Int), .string P2, .string C2] = wz at *
      refine doneG (by kernel_rfl) ?_ _
      go_wp2_with fail
      refine (pick_any 3 N b _ _ HS.out (by omega)).mono ?_
      rintro e w9 ⟨x, ⟨x0, x1, _, _⟩, rfl, s9, g9⟩
      have x2 := x1 (by omega)
      obtain ⟨j, rfl⟩ : ∃ j : Nat, x = j := ⟨x.toNat, by omega⟩
      replace HS := Lib.hid s9
      replace G := Lib.hid (grownBy_trans G.out g9)
      replace V2 := Lib.hid (V2.out.grown g9 (by simp; omega))
      replace V4 := Lib.hid (V4.out.grown g9 (by simp; omega))
      clear g9 s9
      clear x0 x1
      go_wp2_with fail
      go_loopw [6] (fun jv wr => ∃ (j : Nat) (P C : ByteArray), j ≤ 2 ∧ jv = .int .i64 j ∧ Hid ((⟨n, P, C⟩ : Brd).Good n) ∧ Hid (VarAt wr w.heap.size 25 [.int .i64 0, .string ⟨#[]⟩, .string ⟨#[]⟩]) ∧ Hid (VarAt wr B4 25 [.int .i64 (n : Int), .string P, .string C]) ∧ Hid (SrcAt wr N b (k + 10 + 8 * (2 - j))) ∧ Hid (w.grownBy wr (some b))) (fun jv _ => (intOf jv).toNat)
      case atStart => exact ⟨j, P2, C2, by omega, rfl, HGD, V2, V4, Lib.hid (HS.out.mono (Nat.le_refl _) (by omega)), G⟩
      case round =>
        clear HGD V2 V4 HS G x2
        obtain ⟨j, P, C, hj, rfl, HGD, V2, V4, HS, G⟩ := hrel
        by_cases hj0 : 0 < j
        · have hj1 : (0 : Int) < (j : Int) := by omega
          have hj2 : ((j - 1 : Nat) : Int) = (j : Int) - 1 := by omega
          have wj : IntKind.i64.wrap ((j : Int) - 1) = (j : Int) - 1 := IntWalk.i64_in _ (by omega)
          go_wp2_with fail
          refine (pick_any n N b _ _ HS.out (by omega)).mono ?_
          rintro e wA ⟨col, ⟨c0, c1, _, _⟩, rfl, s9, g9⟩
          have c2 := c1 (by omega)
          replace HS := Lib.hid s9
          replace G := Lib.hid (grownBy_trans G.out g9)
          replace V2 := Lib.hid (V2.out.grown g9 (by simp; omega))
          replace V4 := Lib.hid (V4.out.grown g9 (by simp; omega))
          clear g9 s9
          clear c1
          go_wp2_with fail
          refine (pick_any n N b _ _ HS.out (by omega)).mono ?_
          rintro e wB ⟨row, ⟨r0, r1, _, _⟩, rfl, s9, g9⟩
          have r2 := r1 (by omega)
          replace HS := Lib.hid s9
          replace G := Lib.hid (grownBy_trans G.out g9)
          replace V2 := Lib.hid (V2.out.grown g9 (by simp; omega))
          replace V4 := Lib.hid (V4.out.grown g9 (by simp; omega))
          clear g9 s9
          clear r1
          have hx : Below wB.heap.size wB (wB.alloc (.cells (([⟨#[101, 97, 116]⟩, ⟨#[115, 101, 116]⟩, ⟨#[116, 69, 110]⟩, ⟨#[110, 101, 115, 116, 115]⟩, ⟨#[97, 110]⟩, ⟨#[115]⟩, ⟨#[97, 116]⟩] : List ByteArray).flatMap Str.enc).toArray 9)) := (Below.refl _ _).alloc (Nat.le_refl _) _
          have HC := Lib.hid (cells_new (enc := Str.enc) (sz := 1) (fun _ => rfl) wB [⟨#[101, 97, 116]⟩, ⟨#[115, 101, 116]⟩, ⟨#[116, 69, 110]⟩, ⟨#[110, 101, 115, 116, 115]⟩, ⟨#[97, 110]⟩, ⟨#[115]⟩, ⟨#[97, 116]⟩] 9)
          have hltB := V4.out.lt
          replace HS := Lib.hid (HS.out.kept hx)
          replace G := Lib.hid (grown_below G.out hx)
          replace V2 := Lib.hid (V2.out.kept hx)
          replace V4 := Lib.hid (V4.out.kept hx)
          clear hx
          go_wp2_with fail
          refine (text_any [⟨#[101, 97, 116]⟩, ⟨#[115, 101, 116]⟩, ⟨#[116, 69, 110]⟩, ⟨#[110, 101, 115, 116, 115]⟩, ⟨#[97, 110]⟩, ⟨#[115]⟩, ⟨#[97, 116]⟩] wB.heap.size 7 N b _ _ HS.out (by omega) HC.out (by decide) (by decide) (by omega)).mono ?_
          rintro e wC ⟨word, hword, rfl, s7, g7⟩
          replace HS := Lib.hid s7
          replace G := Lib.hid (grownBy_trans G.out g7)
          replace V2 := Lib.hid (V2.out.grown g7 (by simp; omega))
          replace V4 := Lib.hid (V4.out.grown g7 (by simp; omega))
          clear g7 s7
          have HWD := word_ok hword (by rfl)
          clear hword HC hltB
          go_upto_region 14 with fail
          have hd : Below wC.heap.size wC wC.drew := (Below.refl _ _).drew
          replace HS := Lib.hid (HS.out.kept hd)
          replace G := Lib.hid (grown_below G.out hd)
          replace V2 := Lib.hid (V2.out.kept hd)
          replace V4 := Lib.hid (V4.out.kept hd)
          clear hd
          refine wp_region_G 6 (fun W => W.rangeAt B4 0 [.int .i64 (n : Int), .string P, .string C]) (by kernel_rfl) V4.out.range (fun hHeld => ?_)
          clear hHeld
          generalize wC.drew = w6 at *
          refine slotL 0 50 (.agg #[.int .i64 (n : Int), .string P, .string C]) ?_ (hw := waitsFor_of (by kernel_rfl)) (hq := by kernel_rfl) (hS := V4.out.range) (hy := yieldsIf_load_mid (by rfl) 25 _ rfl B4 0 rfl [.int .i64 (n : Int), .string P, .string C] _ (fun w' hS => hS) Tryz.underlying25 rfl (by kernel_rfl))
          simp only [S3]
          refine slotG 1 51 (.int .i64 row) ?_ (hS := fun _ => V4.out.range)
          simp only [S3]
          refine slotG 2 52 (.int .i64 col) ?_ (hS := fun _ => V4.out.range)
          simp only [S3]
          refine slotG 3 53 (.pointer (some ⟨b, 0, none⟩)) ?_ (hS := fun _ => V4.out.range)
          simp only [S3]
          refine slotG 5 55 (.string word) ?_ (hS := fun _ => V4.out.range)
          simp only [S3]
          refine oneG 4 (by kernel_rfl) rfl (fun K hK => ?_)
          go_simp
          refine (one_any 2 N b _ _ HS.out (by omega)).mono ?_
          rintro e w7 ⟨down, rfl, s7, g7⟩
          replace HS := Lib.hid s7
          replace G := Lib.hid (grownBy_trans G.out g7)
          replace V2 := Lib.hid (V2.out.grown g7 (by simp; omega))
          replace V4 := Lib.hid (V4.out.grown g7 (by simp; omega))
          clear g7 s7
          go_wp2_with fail
          refine hK.out _ _ (fun _ => V4.out.range) (fun hHeld => ?_)
          clear hK K hHeld
          refine oneG 6 (by kernel_rfl) rfl (fun K hK => ?_)
          go_simp
          refine (HLY.out P C row col down word _ HGD.out ⟨by omega, by omega⟩ ⟨by omega, by omega⟩ HWD).mono ?_
          rintro e w8 ⟨⟨z2, P2, C2⟩, hg2, rfl, hd⟩
          replace HS := Lib.hid (HS.out.kept hd)
          replace G := Lib.hid (grown_below G.out hd)
          replace V2 := Lib.hid (V2.out.kept hd)
          replace V4 := Lib.hid (V4.out.kept hd)
          clear hd
          obtain rfl : z2 = (n : Int) := hg2.size
          go_wp2_with fail
          refine hK.out _ _ (fun _ => V4.out.range) (fun hHeld => ?_)
          clear hK K hHeld HGD HWD
          have HGD := Lib.hid hg2
          clear hg2
          refine oneG 7 (by kernel_rfl) rfl (fun K hK => ?_)
          obtain ⟨o2, GG⟩ := V4.out.put [.int .i64 (n : Int), .string P2, .string C2] rfl
          have tR := V4.out.there (n := 3) rfl
          refine mk_store rfl rfl 25 (.tmp 4) (.tmp 56) rfl B4 0 #[.int .i64 (n : Int), .string P2, .string C2] rfl rfl tR (by kernel_rfl) (by simp [Value.oneCell']) ?_
          refine hK.out _ _ (fun h => absurd h (by decide)) (fun hHeld => ?_)
          clear hK K hHeld tR
          change wpAnyG _ _ _ _ _ _ _ _ _ (World.setCells _ B4 0 [.int .i64 (n : Int), .string P2, .string C2])
          replace HS := Lib.hid (HS.out.grown GG (fun g e => by simp at e; omega))
          replace G := Lib.hid (grown_over G.out GG (by omega))
          replace V2 := Lib.hid (V2.out.grown GG (by simp; omega))
          replace V4 := Lib.hid o2
          clear o2 GG
          generalize World.setCells _ B4 0 [.int .i64 (n : Int), .string P2, .string C2] = wz at *
          refine doneG (by kernel_rfl) ?_ _
          go_wp2
          go_roundw
          case rel => exact ⟨j - 1, P2, C2, by omega, by rw [hj2], HGD, V2, V4, Lib.hid (HS.out.mono (Nat.le_refl _) (by omega)), G⟩
          case measure => simp [intOf]; omega
        · obtain rfl : j = 0 := by omega
          have z0 := V4.out.cell (i := 0) rfl
          have z1 := V4.out.cell (i := 1) rfl
          have z2 := V4.out.cell (i := 2) rfl
          have c0 := V2.out.cell (i := 0) rfl
          have c1 := V2.out.cell (i := 1) rfl
          have c2 := V2.out.cell (i := 2) rfl
          have f0 := V2.out.free 0
          have f1 := V2.out.free 1
          have f2 := V2.out.free 2
          obtain ⟨o0, k0⟩ := V2.out.set 0 (.int .i64 (n : Int))
          obtain ⟨o1, k1⟩ := o0.set 1 (.string P)
          obtain ⟨o2, k2⟩ := o1.set 2 (.string C)
          have GG := grownBy_trans (grownBy_trans k0 k1) k2
          clear o0 o1 k0 k1 k2
          replace HS := Lib.hid (HS.out.grown GG (fun g e => by simp at e; omega))
          replace G := Lib.hid (grown_over G.out GG (Nat.le_refl _))
          have e0 := o2.cell (i := 0) (v := .int .i64 (n : Int)) rfl
          have e1 := o2.cell (i := 1) (v := .string P) rfl
          have e2 := o2.cell (i := 2) (v := .string C) rfl
          clear o2 GG V4 V2
          go_wp2
          refine bodyPost_ret (v := .agg #[.int .i64 n, .string P, .string C]) (by simp [results, Tryz.results105, go_sem, e0, e1, e2]) rfl ?_
          exact ⟨n, ⟨n, P, C⟩, HGD.out, h9, rfl, HS.out.mono (Nat.le_refl _) (by omega), G.out⟩
  | true =>
    go_wp2_with fail
    refine (HEMP.out _).mono ?_
    rintro e wE ⟨rfl, hd⟩
    replace HS := Lib.hid (HS.out.kept hd)
    replace G := Lib.hid (grown_below G.out hd)
    replace V2 := Lib.hid (V2.out.kept hd)
    replace V4 := Lib.hid (V4.out.kept hd)
    clear hd
    clear HEMP HGD
    have HGD := HGE
    clear HGE
    have c0 := V4.out.cell (i := 0) rfl
    have c1 := V4.out.cell (i := 1) rfl
    have c2 := V4.out.cell (i := 2) rfl
    have f0 := V4.out.free 0
    have f1 := V4.out.free 1
    have f2 := V4.out.free 2
    obtain ⟨o0, k0⟩ := V4.out.set 0 (.int .i64 (n : Int))
    obtain ⟨o1, k1⟩ := o0.set 1 (.string C1)
    obtain ⟨o2, k2⟩ := o1.set 2 (.string C1)
    have GG := grownBy_trans (grownBy_trans k0 k1) k2
    clear o0 o1 k0 k1 k2
    replace HS := Lib.hid (HS.out.grown GG (fun g e => by simp at e; omega))
    replace G := Lib.hid (grown_over G.out GG (by omega))
    replace V2 := Lib.hid (V2.out.grown GG (by simp; omega))
    replace V4 := Lib.hid o2
    clear o2 GG
    go_upto_region 5 with fail
    clear c0 c1 c2 f0 f1 f2
    generalize World.setCell (World.setCell (World.setCell wE _ _) _ _) _ _ = wF at *
    go_wp2_with fail
    refine (one_any 5 N b _ _ HS.out (by omega)).mono ?_
    rintro e w5 ⟨y5, rfl, s5, g5⟩
    replace HS := Lib.hid s5
    replace G := Lib.hid (grownBy_trans G.out g5)
    replace V2 := Lib.hid (V2.out.grown g5 (by simp; omega))
    replace V4 := Lib.hid (V4.out.grown g5 (by simp; omega))
    clear g5 s5
    cases y5 with
    | true =>
      have z0 := V4.out.cell (i := 0) rfl
      have z1 := V4.out.cell (i := 1) rfl
      have z2 := V4.out.cell (i := 2) rfl
      have c0 := V2.out.cell (i := 0) rfl
      have c1 := V2.out.cell (i := 1) rfl
      have c2 := V2.out.cell (i := 2) rfl
      have f0 := V2.out.free 0
      have f1 := V2.out.free 1
      have f2 := V2.out.free 2
      obtain ⟨o0, k0⟩ := V2.out.set 0 (.int .i64 (n : Int))
      obtain ⟨o1, k1⟩ := o0.set 1 (.string C1)
      obtain ⟨o2, k2⟩ := o1.set 2 (.string C1)
      have GG := grownBy_trans (grownBy_trans k0 k1) k2
      clear o0 o1 k0 k1 k2
      replace HS := Lib.hid (HS.out.grown GG (fun g e => by simp at e; omega))
      replace G := Lib.hid (grown_over G.out GG (Nat.le_refl _))
      have e0 := o2.cell (i := 0) (v := .int .i64 (n : Int)) rfl
      have e1 := o2.cell (i := 1) (v := .string C1) rfl
      have e2 := o2.cell (i := 2) (v := .string C1) rfl
      clear o2 GG V4 V2
      go_wp2
      refine bodyPost_ret (v := .agg #[.int .i64 n, .string C1, .string C1]) (by simp [results, Tryz.results105, go_sem, e0, e1, e2]) rfl ?_
      exact ⟨n, ⟨n, C1, C1⟩, HGD.out, h9, rfl, HS.out.mono (Nat.le_refl _) (by omega), G.out⟩
    | false =>
      go_upto_region 7 with fail
      have hd : Below w5.heap.size w5 w5.drew := (Below.refl _ _).drew
      replace HS := Lib.hid (HS.out.kept hd)
      replace G := Lib.hid (grown_below G.out hd)
      replace V2 := Lib.hid (V2.out.kept hd)
      replace V4 := Lib.hid (V4.out.kept hd)
      clear hd
      refine wp_region_G 6 (fun W => W.rangeAt B4 0 [.int .i64 (n : Int), .string C1, .string C1]) (by kernel_rfl) V4.out.range (fun hHeld => ?_)
      clear hHeld
      generalize w5.drew = w6 at *
      refine slotL 0 28 (.agg #[.int .i64 (n : Int), .string C1, .string C1]) ?_ (hw := waitsFor_of (by kernel_rfl)) (hq := by kernel_rfl) (hS := V4.out.range) (hy := yieldsIf_load_mid (by rfl) 25 _ rfl B4 0 rfl [.int .i64 (n : Int), .string C1, .string C1] _ (fun w' hS => hS) Tryz.underlying25 rfl (by kernel_rfl))
      simp only [S3]
      refine slotG 1 29 (.int .i64 (n : Int)) ?_ (hS := fun _ => V4.out.range)
      simp only [S3]
      have wq : IntKind.i64.wrap ((n : Int) / 2) = (n : Int) / 2 := IntWalk.i64_in _ (by omega)
      refine slotG 2 30 (.int .i64 ((n : Int) / 2)) ?_ (hS := fun _ => V4.out.range)
      simp only [S3]
      refine slotG 3 31 (.pointer (some ⟨b, 0, none⟩)) ?_ (hS := fun _ => V4.out.range)
      simp only [S3]
      refine oneG 4 (by kernel_rfl) rfl (fun K hK => ?_)
      have hx : Below w6.heap.size w6 (w6.alloc (.cells (([⟨#[116, 101, 115, 116, 115]⟩, ⟨#[101, 65, 116, 101, 110]⟩, ⟨#[116, 101, 110]⟩, ⟨#[97, 114, 101, 110, 97]⟩, ⟨#[110, 101, 115, 116, 115]⟩] : List ByteArray).flatMap Str.enc).toArray 9)) := (Below.refl _ _).alloc (Nat.le_refl _) _
      have HC := Lib.hid (cells_new (enc := Str.enc) (sz := 1) (fun _ => rfl) w6 [⟨#[116, 101, 115, 116, 115]⟩, ⟨#[101, 65, 116, 101, 110]⟩, ⟨#[116, 101, 110]⟩, ⟨#[97, 114, 101, 110, 97]⟩, ⟨#[110, 101, 115, 116, 115]⟩] 9)
      have hlt6 := V4.out.lt
      replace HS := Lib.hid (HS.out.kept hx)
      replace G := Lib.hid (grown_below G.out hx)
      replace V2 := Lib.hid (V2.out.kept hx)
      replace V4 := Lib.hid (V4.out.kept hx)
      clear hx
      go_simp
      refine hK.out _ _ (fun _ => V4.out.range) (fun hHeld => ?_)
      clear hK K hHeld
      refine oneG 5 (by kernel_rfl) rfl (fun K hK => ?_)
      go_simp
      refine (text_any [⟨#[116, 101, 115, 116, 115]⟩, ⟨#[101, 65, 116, 101, 110]⟩, ⟨#[116, 101, 110]⟩, ⟨#[97, 114, 101, 110, 97]⟩, ⟨#[110, 101, 115, 116, 115]⟩] w6.heap.size 5 N b _ _ HS.out (by omega) HC.out (by decide) (by decide) (by omega)).mono ?_
      rintro e w7 ⟨word, hword, rfl, s7, g7⟩
      replace HS := Lib.hid s7
      replace G := Lib.hid (grownBy_trans G.out g7)
      replace V2 := Lib.hid (V2.out.grown g7 (by simp; omega))
      replace V4 := Lib.hid (V4.out.grown g7 (by simp; omega))
      clear g7 s7
      have HWD := word_ok hword (by rfl)
      clear hword HC
      go_wp2_with fail
      refine hK.out _ _ (fun _ => V4.out.range) (fun hHeld => ?_)
      clear hK K hHeld
      refine oneG 6 (by kernel_rfl) rfl (fun K hK => ?_)
      go_simp
      refine (HLY.out C1 C1 ((n : Int) / 2) 0 false word _ HGD.out ⟨by omega, by omega⟩ ⟨by omega, by omega⟩ HWD).mono ?_
      rintro e w8 ⟨⟨z2, P2, C2⟩, hg2, rfl, hd⟩
      replace HS := Lib.hid (HS.out.kept hd)
      replace G := Lib.hid (grown_below G.out hd)
      replace V2 := Lib.hid (V2.out.kept hd)
      replace V4 := Lib.hid (V4.out.kept hd)
      clear hd
      obtain rfl : z2 = (n : Int) := hg2.size
      go_wp2_with fail
      refine hK.out _ _ (fun _ => V4.out.range) (fun hHeld => ?_)
      clear hK K hHeld HGD HWD
      have HGD := Lib.hid hg2
      clear hg2
      refine oneG 7 (by kernel_rfl) rfl (fun K hK => ?_)
      obtain ⟨o2, GG⟩ := V4.out.put [.int .i64 (n : Int), .string P2, .string C2] rfl
      have tR := V4.out.there (n := 3) rfl
      refine mk_store rfl rfl 25 (.tmp 4) (.tmp 34) rfl B4 0 #[.int .i64 (n : Int), .string P2, .string C2] rfl rfl tR (by kernel_rfl) (by simp [Value.oneCell']) ?_
      refine hK.out _ _ (fun h => absurd h (by decide)) (fun hHeld => ?_)
      clear hK K hHeld tR
      change wpAnyG _ _ _ _ _ _ _ _ _ (World.setCells _ B4 0 [.int .i64 (n : Int), .string P2, .string C2])
      replace HS := Lib.hid (HS.out.grown GG (fun g e => by simp at e; omega))
      replace G := Lib.hid (grown_over G.out GG (by omega))
      replace V2 := Lib.hid (V2.out.grown GG (by simp; omega))
      replace V4 := Lib.hid o2
      clear o2 GG
      generalize World.setCells _ B4 0 [.int .i64 (n : Int), .string P2, .string C2] = wz at *
      refine doneG (by kernel_rfl) ?_ _
      go_wp2_with fail
      refine (pick_any 3 N b _ _ HS.out (by omega)).mono ?_
      rintro e w9 ⟨x, ⟨x0, x1, _, _⟩, rfl, s9, g9⟩
      have x2 := x1 (by omega)
      obtain ⟨j, rfl⟩ : ∃ j : Nat, x = j := ⟨x.toNat, by omega⟩
      replace HS := Lib.hid s9
      replace G := Lib.hid (grownBy_trans G.out g9)
      replace V2 := Lib.hid (V2.out.grown g9 (by simp; omega))
      replace V4 := Lib.hid (V4.out.grown g9 (by simp; omega))
      clear g9 s9
      clear x0 x1
      go_wp2_with fail
      go_loopw [6] (fun jv wr => ∃ (j : Nat) (P C : ByteArray), j ≤ 2 ∧ jv = .int .i64 j ∧ Hid ((⟨n, P, C⟩ : Brd).Good n) ∧ Hid (VarAt wr w.heap.size 25 [.int .i64 0, .string ⟨#[]⟩, .string ⟨#[]⟩]) ∧ Hid (VarAt wr B4 25 [.int .i64 (n : Int), .string P, .string C]) ∧ Hid (SrcAt wr N b (k + 10 + 8 * (2 - j))) ∧ Hid (w.grownBy wr (some b))) (fun jv _ => (intOf jv).toNat)
      case atStart => exact ⟨j, P2, C2, by omega, rfl, HGD, V2, V4, Lib.hid (HS.out.mono (Nat.le_refl _) (by omega)), G⟩
      case round =>
        clear HGD V2 V4 HS G x2
        obtain ⟨j, P, C, hj, rfl, HGD, V2, V4, HS, G⟩ := hrel
        by_cases hj0 : 0 < j
        · have hj1 : (0 : Int) < (j : Int) := by omega
          have hj2 : ((j - 1 : Nat) : Int) = (j : Int) - 1 := by omega
          have wj : IntKind.i64.wrap ((j : Int) - 1) = (j : Int) - 1 := IntWalk.i64_in _ (by omega)
          go_wp2_with fail
          refine (pick_any n N b _ _ HS.out (by omega)).mono ?_
          rintro e wA ⟨col, ⟨c0, c1, _, _⟩, rfl, s9, g9⟩
          have c2 := c1 (by omega)
          replace HS := Lib.hid s9
          replace G := Lib.hid (grownBy_trans G.out g9)
          replace V2 := Lib.hid (V2.out.grown g9 (by simp; omega))
          replace V4 := Lib.hid (V4.out.grown g9 (by simp; omega))
          clear g9 s9
          clear c1
          go_wp2_with fail
          refine (pick_any n N b _ _ HS.out (by omega)).mono ?_
          rintro e wB ⟨row, ⟨r0, r1, _, _⟩, rfl, s9, g9⟩
          have r2 := r1 (by omega)
          replace HS := Lib.hid s9
          replace G := Lib.hid (grownBy_trans G.out g9)
          replace V2 := Lib.hid (V2.out.grown g9 (by simp; omega))
          replace V4 := Lib.hid (V4.out.grown g9 (by simp; omega))
          clear g9 s9
          clear r1
          have hx : Below wB.heap.size wB (wB.alloc (.cells (([⟨#[101, 97, 116]⟩, ⟨#[115, 101, 116]⟩, ⟨#[116, 69, 110]⟩, ⟨#[110, 101, 115, 116, 115]⟩, ⟨#[97, 110]⟩, ⟨#[115]⟩, ⟨#[97, 116]⟩] : List ByteArray).flatMap Str.enc).toArray 9)) := (Below.refl _ _).alloc (Nat.le_refl _) _
          have HC := Lib.hid (cells_new (enc := Str.enc) (sz := 1) (fun _ => rfl) wB [⟨#[101, 97, 116]⟩, ⟨#[115, 101, 116]⟩, ⟨#[116, 69, 110]⟩, ⟨#[110, 101, 115, 116, 115]⟩, ⟨#[97, 110]⟩, ⟨#[115]⟩, ⟨#[97, 116]⟩] 9)
          have hltB := V4.out.lt
          replace HS := Lib.hid (HS.out.kept hx)
          replace G := Lib.hid (grown_below G.out hx)
          replace V2 := Lib.hid (V2.out.kept hx)
          replace V4 := Lib.hid (V4.out.kept hx)
          clear hx
          go_wp2_with fail
          refine (text_any [⟨#[101, 97, 116]⟩, ⟨#[115, 101, 116]⟩, ⟨#[116, 69, 110]⟩, ⟨#[110, 101, 115, 116, 115]⟩, ⟨#[97, 110]⟩, ⟨#[115]⟩, ⟨#[97, 116]⟩] wB.heap.size 7 N b _ _ HS.out (by omega) HC.out (by decide) (by decide) (by omega)).mono ?_
          rintro e wC ⟨word, hword, rfl, s7, g7⟩
          replace HS := Lib.hid s7
          replace G := Lib.hid (grownBy_trans G.out g7)
          replace V2 := Lib.hid (V2.out.grown g7 (by simp; omega))
          replace V4 := Lib.hid (V4.out.grown g7 (by simp; omega))
          clear g7 s7
          have HWD := word_ok hword (by rfl)
          clear hword HC hltB
          go_upto_region 14 with fail
          have hd : Below wC.heap.size wC wC.drew := (Below.refl _ _).drew
          replace HS := Lib.hid (HS.out.kept hd)
          replace G := Lib.hid (grown_below G.out hd)
          replace V2 := Lib.hid (V2.out.kept hd)
          replace V4 := Lib.hid (V4.out.kept hd)
          clear hd
          refine wp_region_G 6 (fun W => W.rangeAt B4 0 [.int .i64 (n : Int), .string P, .string C]) (by kernel_rfl) V4.out.range (fun hHeld => ?_)
          clear hHeld
          generalize wC.drew = w6 at *
          refine slotL 0 50 (.agg #[.int .i64 (n : Int), .string P, .string C]) ?_ (hw := waitsFor_of (by kernel_rfl)) (hq := by kernel_rfl) (hS := V4.out.range) (hy := yieldsIf_load_mid (by rfl) 25 _ rfl B4 0 rfl [.int .i64 (n : Int), .string P, .string C] _ (fun w' hS => hS) Tryz.underlying25 rfl (by kernel_rfl))
          simp only [S3]
          refine slotG 1 51 (.int .i64 row) ?_ (hS := fun _ => V4.out.range)
          simp only [S3]
          refine slotG 2 52 (.int .i64 col) ?_ (hS := fun _ => V4.out.range)
          simp only [S3]
          refine slotG 3 53 (.pointer (some ⟨b, 0, none⟩)) ?_ (hS := fun _ => V4.out.range)
          simp only [S3]
          refine slotG 5 55 (.string word) ?_ (hS := fun _ => V4.out.range)
          simp only [S3]
          refine oneG 4 (by kernel_rfl) rfl (fun K hK => ?_)
          go_simp
          refine (one_any 2 N b _ _ HS.out (by omega)).mono ?_
          rintro e w7 ⟨down, rfl, s7, g7⟩
          replace HS := Lib.hid s7
          replace G := Lib.hid (grownBy_trans G.out g7)
          replace V2 := Lib.hid (V2.out.grown g7 (by simp; omega))
          replace V4 := Lib.hid (V4.out.grown g7 (by simp; omega))
          clear g7 s7
          go_wp2_with fail
          refine hK.out _ _ (fun _ => V4.out.range) (fun hHeld => ?_)
          clear hK K hHeld
          refine oneG 6 (by kernel_rfl) rfl (fun K hK => ?_)
          go_simp
          refine (HLY.out P C row col down word _ HGD.out ⟨by omega, by omega⟩ ⟨by omega, by omega⟩ HWD).mono ?_
          rintro e w8 ⟨⟨z2, P2, C2⟩, hg2, rfl, hd⟩
          replace HS := Lib.hid (HS.out.kept hd)
          replace G := Lib.hid (grown_below G.out hd)
          replace V2 := Lib.hid (V2.out.kept hd)
          replace V4 := Lib.hid (V4.out.kept hd)
          clear hd
          obtain rfl : z2 = (n : Int) := hg2.size
          go_wp2_with fail
          refine hK.out _ _ (fun _ => V4.out.range) (fun hHeld => ?_)
          clear hK K hHeld HGD HWD
          have HGD := Lib.hid hg2
          clear hg2
          refine oneG 7 (by kernel_rfl) rfl (fun K hK => ?_)
          obtain ⟨o2, GG⟩ := V4.out.put [.int .i64 (n : Int), .string P2, .string C2] rfl
          have tR := V4.out.there (n := 3) rfl
          refine mk_store rfl rfl 25 (.tmp 4) (.tmp 56) rfl B4 0 #[.int .i64 (n : Int), .string P2, .string C2] rfl rfl tR (by kernel_rfl) (by simp [Value.oneCell']) ?_
          refine hK.out _ _ (fun h => absurd h (by decide)) (fun hHeld => ?_)
          clear hK K hHeld tR
          change wpAnyG _ _ _ _ _ _ _ _ _ (World.setCells _ B4 0 [.int .i64 (n : Int), .string P2, .string C2])
          replace HS := Lib.hid (HS.out.grown GG (fun g e => by simp at e; omega))
          replace G := Lib.hid (grown_over G.out GG (by omega))
          replace V2 := Lib.hid (V2.out.grown GG (by simp; omega))
          replace V4 := Lib.hid o2
          clear o2 GG
          generalize World.setCells _ B4 0 [.int .i64 (n : Int), .string P2, .string C2] = wz at *
          refine doneG (by kernel_rfl) ?_ _
          go_wp2
          go_roundw
          case rel => exact ⟨j - 1, P2, C2, by omega, by rw [hj2], HGD, V2, V4, Lib.hid (HS.out.mono (Nat.le_refl _) (by omega)), G⟩
          case measure => simp [intOf]; omega
        · obtain rfl : j = 0 := by omega
          have z0 := V4.out.cell (i := 0) rfl
          have z1 := V4.out.cell (i := 1) rfl
          have z2 := V4.out.cell (i := 2) rfl
          have c0 := V2.out.cell (i := 0) rfl
          have c1 := V2.out.cell (i := 1) rfl
          have c2 := V2.out.cell (i := 2) rfl
          have f0 := V2.out.free 0
          have f1 := V2.out.free 1
          have f2 := V2.out.free 2
          obtain ⟨o0, k0⟩ := V2.out.set 0 (.int .i64 (n : Int))
          obtain ⟨o1, k1⟩ := o0.set 1 (.string P)
          obtain ⟨o2, k2⟩ := o1.set 2 (.string C)
          have GG := grownBy_trans (grownBy_trans k0 k1) k2
          clear o0 o1 k0 k1 k2
          replace HS := Lib.hid (HS.out.grown GG (fun g e => by simp at e; omega))
          replace G := Lib.hid (grown_over G.out GG (Nat.le_refl _))
          have e0 := o2.cell (i := 0) (v := .int .i64 (n : Int)) rfl
          have e1 := o2.cell (i := 1) (v := .string P) rfl
          have e2 := o2.cell (i := 2) (v := .string C) rfl
          clear o2 GG V4 V2
          go_wp2
          refine bodyPost_ret (v := .agg #[.int .i64 n, .string P, .string C]) (by simp [results, Tryz.results105, go_sem, e0, e1, e2]) rfl ?_
          exact ⟨n, ⟨n, P, C⟩, HGD.out, h9, rfl, HS.out.mono (Nat.le_refl _) (by omega), G.out⟩
end Go.Proofs.YtjdcdhhbgijaoaaGreatDoor
