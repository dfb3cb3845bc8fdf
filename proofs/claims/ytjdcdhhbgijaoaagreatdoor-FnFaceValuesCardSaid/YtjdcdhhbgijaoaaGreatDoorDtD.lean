/- Plain definitions: the rows of a board's text. Contract: the program's rows of a board. Fo · Contract: strings.Split at one byte, in plain words. Leans on the variable MaxLen of inter · Contracts: the reference's lists of words: a word is put into a list, lists are made, list · Contract: the reference's draw for BestPlay: a tile set, a board and a list of plays. Noth -/
import Derived.Test.YtjdcdhhbgijaoaaGreatDoorBrI
import Derived.Deep.AppendLies
import Derived.Test.YtjdcdhhbgijaoaaGreatDoorLex
import Derived.Test.YtjdcdhhbgijaoaaGreatDoorMkTz
import Derived.Test.YtjdcdhhbgijaoaaGreatDoorShq
import Derived.Test.YtjdcdhhbgijaoaaGreatDoorDbE
import Derived.Laws.AppendOwn
import Derived.Deep.DeepCutAuto
import Derived.Deep.CutBlock
import Derived.Test.YtjdcdhhbgijaoaaGreatDoorDtC
import Derived.Test.YtjdcdhhbgijaoaaGreatDoorDbB
namespace Go.Proofs.YtjdcdhhbgijaoaaGreatDoor
open Go.ChangeShapes Go.WideShapes Go.ChangeAt Go.RowKit Go.Sort

structure Cuts (n k s0 s1 : Nat) : Prop where
  p0 : (k : Int) * (n : Int) = (s0 : Int)
  p1 : ((k : Int) + 1) * (n : Int) = (s1 : Int)
  w0 : IntKind.i64.wrap (s0 : Int) = s0
  w1 : IntKind.i64.wrap (s1 : Int) = s1
  le : s0 ≤ s1
  hi : s1 ≤ n * n
end Go.Proofs.YtjdcdhhbgijaoaaGreatDoor
namespace Go.Proofs.YtjdcdhhbgijaoaaGreatDoor
open Go.ChangeShapes Go.WideShapes Go.ChangeAt Go.RowKit Go.Sort

/-- the variable that the library's searches read -/
def EnvM (w : World) : Prop := ∃ m : Int, w.cell? ⟨0, 0, none⟩ = some (.int .i64 m)
theorem EnvM.kept {w w' : World} (h : EnvM w) (hb : Below w.heap.size w w') : EnvM w' := by
  obtain ⟨m, hm⟩ := h
  exact ⟨m, cell_kept hm hb⟩
end Go.Proofs.YtjdcdhhbgijaoaaGreatDoor
namespace Go.Proofs.YtjdcdhhbgijaoaaGreatDoor
open Go.ChangeShapes Go.WideShapes Go.ChangeAt Go.RowKit Go.Sort

theorem own_aside {w w' : World} {base : Nat} {e : TypeId} {sz g n cap g' : Nat} {L : List Value} (h : w.ownsRow base e sz (.slice (some ⟨g, 0, none⟩) n cap) n L) (hg : w.grownBy w' (some g')) (hne : g ≠ g') : w'.ownsRow base e sz (.slice (some ⟨g, 0, none⟩) n cap) n L :=
  World.ownsRow.kept h hg (.inr (by intro e; exact hne (Option.some.inj e)))
end Go.Proofs.YtjdcdhhbgijaoaaGreatDoor
namespace Go.Proofs.YtjdcdhhbgijaoaaGreatDoor
open Go.ChangeShapes Go.WideShapes Go.ChangeAt Go.RowKit Go.Sort

theorem infoPly : (Tryz.prog.info? 30).map (fun i => (i.zero, i.size, i.bytes)) = some (some (.agg #[.int .i64 0, .int .i64 0, .bool false, .string ⟨#[]⟩]), 4, 40) := by kernel_rfl
theorem ply_cell (p : Ply) : ∀ v ∈ Ply.enc p, v.oneCell' = true := by
  intro v hv
  simp only [Ply.enc, List.mem_cons, List.not_mem_nil, or_false] at hv
  rcases hv with rfl | rfl | rfl | rfl <;> rfl
theorem new_ply (w : World) (p : Ply) (t : TypeId) : ∀ j u, (Ply.enc p)[j]? = some u → (w.alloc (.cells #[.int .i64 p.row, .int .i64 p.col, .bool p.down, .string p.word] t)).cell? ((⟨w.heap.size, 0, none⟩ : Addr).add j) = some u := by
  intro j u hu
  rw [Go.Addr.add_lit, Nat.zero_add]
  exact (VarAt.new w t (Ply.enc p)).cell hu
theorem own_far {x : Tls} {q : TlA} {B g : Nat} {w w' : World} (h : x.Own q B w) (hg : w.grownBy w' (some g)) (hv : ∀ k, q.values.a.map (·.block) = some k → k ≠ g) (hc : ∀ k, q.counts.a.map (·.block) = some k → k ≠ g) : x.Own q B w' := by
  have hW : Wrote 0 [some ⟨g, 0, none⟩] w w' := Wrote.of_grown (a := some ⟨g, 0, none⟩) (n := 1) (c := 1) hg (Nat.zero_le _) (fun _ _ => Nat.zero_le _)
  refine ⟨hW.own (fun s hs => ?_) h.1, hW.own (fun s hs => ?_) h.2⟩
  · rw [List.mem_singleton.1 hs]
    intro k e1 e2
    obtain rfl : g = k := by simpa using e1
    exact hv _ e2 rfl
  · rw [List.mem_singleton.1 hs]
    intro k e1 e2
    obtain rfl : g = k := by simpa using e1
    exact hc _ e2 rfl
/-- what BestPlay is asked comes back -/
def BestOut (w : World) (e : Ending) (w' : World) : Prop :=
  ∃ (x : Tls) (q : TlA) (bd : Brd) (ps : List Ply) (g m cap : Nat), x.letters.size ≤ 31 ∧ x.values.length ≤ 31 ∧ x.counts.length ≤ 31 ∧ bd.premium.size ≤ 300 ∧ bd.cells.size ≤ 300 ∧ ps.length = m ∧ m ≤ 20 ∧ (∀ p ∈ ps, p.word.size ≤ 20) ∧ e = .returned (.tuple #[.agg #[.string x.letters, .slice q.values.a x.values.length q.values.c, .slice q.counts.a x.counts.length q.counts.c, .int .i64 x.blanks], .agg #[.int .i64 bd.size, .string bd.premium, .string bd.cells], .slice (some ⟨g, 0, none⟩) m cap]) ∧ x.At q w' ∧ SliceAt w' 4 Ply.enc (some ⟨g, 0, none⟩) ps ∧ Below w.heap.size w w'
set_option maxRecDepth 100000 in
set_option maxHeartbeats 8000000 in
theorem DrawBestPlay_any (ca : Option Addr) (ccap : Nat) (bs : List Int) (w : World) (hc : CodeAt w w.heap.size ca bs) : Calls Tryz.prog 35 #[.slice ca bs.length ccap] w (BestOut w) := by
  obtain ⟨i0, hi0, hi1, hi2, hi3⟩ := info_parts infoPly
  obtain ⟨w1, hw1⟩ : ∃ w1, w1 = (w.alloc (.cells #[.string ⟨#[]⟩, .slice none 0 0, .slice none 0 0, .int .i64 0] 44)).alloc (.cells #[.int .i64 0, .string ⟨#[]⟩, .string ⟨#[]⟩] 25) := ⟨_, rfl⟩
  have hb : Below w.heap.size w w1 := by rw [hw1]; exact ((Below.refl _ _).alloc (Nat.le_refl _) _).alloc (by simp) _
  have hz1 : w1.heap.size = w.heap.size + 2 := by rw [hw1]; simp
  have V2 : Hid (VarAt w1 w.heap.size 44 [.string ⟨#[]⟩, .slice none 0 0, .slice none 0 0, .int .i64 0]) := by
    rw [hw1]
    exact Lib.hid ((VarAt.new w 44 [.string ⟨#[]⟩, .slice none 0 0, .slice none 0 0, .int .i64 0]).kept ((Below.refl _ _).alloc (Nat.le_refl _) _))
  have V3 : Hid (VarAt w1 (w.heap.size + 1) 25 [.int .i64 0, .string ⟨#[]⟩, .string ⟨#[]⟩]) := by
    rw [hw1]
    have := VarAt.new (w.alloc (.cells #[.string ⟨#[]⟩, .slice none 0 0, .slice none 0 0, .int .i64 0] 44)) 25 [.int .i64 0, .string ⟨#[]⟩, .string ⟨#[]⟩]
    simp only [World.size_alloc] at this
    exact Lib.hid this
  have HC : Hid (CodeAt w1 w1.heap.size ca bs) := by
    obtain ⟨c1, c2, c3, c4⟩ := hc
    exact Lib.hid ⟨c1.kept hb, c2, c3, fun h0 cb co e => by have := c4 h0 cb co e; omega⟩
  have HW1 := Lib.hid hw1
  clear hc hw1
  go_enter Tryz.func35, Tryz.ntmps35
  go_upto_region 1 with fail
  rw [← HW1.out]
  clear HW1
  have HZ1 := Lib.hid hz1
  clear hz1
  go_wp2_with fail
  refine (l00From_any ca ccap bs _ HC.out).mono ?_
  rintro e w2 ⟨rfl, h2, s2, hz2⟩
  have hz1 := HZ1.out
  have HS := Lib.hid s2
  replace V2 := Lib.hid (V2.out.kept h2)
  replace V3 := Lib.hid (V3.out.kept h2)
  replace hb := hb.trans (h2.mono hb.size)
  have hz3 : w1.heap.size + 1 ≤ w2.heap.size := by omega
  have hz4 : w.heap.size + 1 < w1.heap.size := by omega
  generalize w1.heap.size = B1 at *
  clear h2 s2 HC hz1 HZ1
  go_wp2_with fail
  refine (l13Tiles_any (B1 + 1) B1 0 _ HS.out (by omega) hz3).mono ?_
  rintro e w3 ⟨x, q, rfl, l1, l2, l3, _, _, hat, hoff, s3, g3⟩
  have HT0 : Hid (x.Own q (B1 + 1) w3) := Lib.hid (Tls.Own.mono hat (by omega))
  have HV : Hid ((∀ k, q.values.a.map (·.block) = some k → k < w3.heap.size) ∧ ∀ k, q.counts.a.map (·.block) = some k → k < w3.heap.size) := Lib.hid ⟨fun k h => (own_lt hat.1 k h).2, fun k h => (own_lt hat.2 k h).2⟩
  replace V2 := Lib.hid (V2.out.grown g3 (by simp; omega))
  replace V3 := Lib.hid (V3.out.grown g3 (by simp; omega))
  replace HS := Lib.hid s3
  replace hb := hb.grown g3 hb.size (fun q h => by cases h; omega)
  have hz5 : B1 + 1 ≤ w3.heap.size := Nat.le_trans hz3 g3.size
  clear s3 g3 hat hoff hz2 hz3
  have hx : Below w3.heap.size w3 (w3.alloc (.cells #[.string x.letters, .slice q.values.a x.values.length q.values.c, .slice q.counts.a x.counts.length q.counts.c, .int .i64 x.blanks] 44)) := (Below.refl _ _).alloc (Nat.le_refl _) _
  have V6 := Lib.hid (VarAt.new w3 44 [.string x.letters, .slice q.values.a x.values.length q.values.c, .slice q.counts.a x.counts.length q.counts.c, .int .i64 x.blanks])
  have HT := Lib.hid (HT0.out.kept hx)
  have hz6 : w3.heap.size < (w3.alloc (.cells #[.string x.letters, .slice q.values.a x.values.length q.values.c, .slice q.counts.a x.counts.length q.counts.c, .int .i64 x.blanks] 44)).heap.size := by simp
  replace V2 := Lib.hid (V2.out.kept hx)
  replace V3 := Lib.hid (V3.out.kept hx)
  replace HS := Lib.hid (HS.out.kept hx)
  replace hb := hb.trans (Below.mono hx hb.size)
  clear hx HT0
  go_upto_region 3 with fail
  generalize w3.alloc (.cells #[.string x.letters, .slice q.values.a x.values.length q.values.c, .slice q.counts.a x.counts.length q.counts.c, .int .i64 x.blanks] 44) = w4 at *
  generalize w3.heap.size = B6 at *
  go_wp2_with fail
  refine (l11Draw_any (B1 + 1) B1 _ _ HS.out (by omega) (by omega)).mono ?_
  rintro e w5 ⟨n, ⟨bz, P, C⟩, hgd, h9, rfl, s5, g5⟩
  obtain rfl : bz = (n : Int) := hgd.size
  replace V2 := Lib.hid (V2.out.grown g5 (by simp; omega))
  replace V3 := Lib.hid (V3.out.grown g5 (by simp; omega))
  replace HS := Lib.hid s5
  replace hb := hb.grown g5 hb.size (fun q h => by cases h; omega)
  replace V6 := Lib.hid (V6.out.grown g5 (by simp; omega))
  replace HT := Lib.hid (HT.out.store g5 (by omega))
  have hz7 : B6 < w5.heap.size := Nat.lt_of_lt_of_le hz6 g5.size
  have hP : P.size = n * n := hgd.prem
  have hC : C.size = n * n := hgd.cells
  have hnn : n * n ≤ 81 := Nat.mul_le_mul h9 h9
  have hP1 : P.size ≤ 300 := by omega
  have hC1 : C.size ≤ 300 := by omega
  have HGD := Lib.hid hgd
  clear s5 g5 hz6 hgd hP hC hnn
  simp only
  have hx : Below w5.heap.size w5 (w5.alloc (.cells #[.int .i64 (n : Int), .string P, .string C] 25)) := (Below.refl _ _).alloc (Nat.le_refl _) _
  have V7 := Lib.hid (VarAt.new w5 25 [.int .i64 (n : Int), .string P, .string C])
  have hz8 : w5.heap.size < (w5.alloc (.cells #[.int .i64 (n : Int), .string P, .string C] 25)).heap.size := by simp
  replace V2 := Lib.hid (V2.out.kept hx)
  replace V3 := Lib.hid (V3.out.kept hx)
  replace HS := Lib.hid (HS.out.kept hx)
  replace hb := hb.trans (Below.mono hx hb.size)
  replace V6 := Lib.hid (V6.out.kept hx)
  replace HT := Lib.hid (HT.out.kept hx)
  clear hx
  go_upto_region 4 with fail
  generalize w5.alloc (.cells #[.int .i64 (n : Int), .string P, .string C] 25) = w6 at *
  generalize w5.heap.size = B7 at *
  have hx : Below w6.heap.size w6 (w6.alloc (.cells #[] 30)) := (Below.refl _ _).alloc (Nat.le_refl _) _
  have HO : Hid ((w6.alloc (.cells #[] 30)).ownsRow w6.heap.size 30 4 (.slice (some ⟨w6.heap.size, 0, none⟩) 0 0) 0 (([] : List Ply).flatMap Ply.enc)) := Lib.hid (World.ownsRow_made (base := w6.heap.size) (e := 30) (size := 4) w6 #[] 0 (Nat.le_refl _) (by unfold maxLen; omega) rfl)
  replace V2 := Lib.hid (V2.out.kept hx)
  replace V3 := Lib.hid (V3.out.kept hx)
  replace HS := Lib.hid (HS.out.kept hx)
  replace hb := hb.trans (Below.mono hx hb.size)
  replace V6 := Lib.hid (V6.out.kept hx)
  replace HT := Lib.hid (HT.out.kept hx)
  replace V7 := Lib.hid (V7.out.kept hx)
  clear hx
  go_upto_region 5 with fail
  generalize w6.alloc (.cells #[] 30) = w7 at *
  generalize w6.heap.size = BL at *
  go_wp2_with fail
  refine (pick_any 20 (B1 + 1) B1 _ _ HS.out (by omega)).mono ?_
  rintro e w8 ⟨z, ⟨z0, z1, _, _⟩, rfl, s8, g8⟩
  have z2 := z1 (by decide)
  obtain ⟨j0, rfl⟩ : ∃ j0 : Nat, z = j0 := ⟨z.toNat, by omega⟩
  replace V2 := Lib.hid (V2.out.grown g8 (by simp; omega))
  replace V3 := Lib.hid (V3.out.grown g8 (by simp; omega))
  replace HS := Lib.hid s8
  replace hb := hb.grown g8 hb.size (fun q h => by cases h; omega)
  replace V6 := Lib.hid (V6.out.grown g8 (by simp; omega))
  replace HT := Lib.hid (HT.out.store g8 (by omega))
  replace V7 := Lib.hid (V7.out.grown g8 (by simp; omega))
  replace HO := Lib.hid (own_aside HO.out g8 (by first | omega | (dsimp only; omega)))
  clear s8 g8 z0 z1
  go_wp2_with fail
  go_loopw [8, 9] (fun lv kv wr => ∃ (k m g cap : Nat) (ps : List Ply), k ≤ 19 ∧ kv = .int .i64 (k : Int) ∧ lv = .slice (some ⟨g, 0, none⟩) m cap ∧ ps.length = m ∧ m + k ≤ 20 ∧ Hid (∀ p ∈ ps, p.word.size ≤ 20) ∧ Hid (wr.ownsRow BL 30 4 (.slice (some ⟨g, 0, none⟩) m cap) m (ps.flatMap Ply.enc)) ∧ Hid (SrcAt wr (B1 + 1) B1 (400 + 30 * (20 - k))) ∧ Below w.heap.size w wr ∧ Hid (VarAt wr w.heap.size 44 [.string ⟨#[]⟩, .slice none 0 0, .slice none 0 0, .int .i64 0]) ∧ Hid (VarAt wr (w.heap.size + 1) 25 [.int .i64 0, .string ⟨#[]⟩, .string ⟨#[]⟩]) ∧ Hid (VarAt wr B6 44 [.string x.letters, .slice q.values.a x.values.length q.values.c, .slice q.counts.a x.counts.length q.counts.c, .int .i64 x.blanks]) ∧ Hid (VarAt wr B7 25 [.int .i64 (n : Int), .string P, .string C]) ∧ Hid (x.Own q (B1 + 1) wr)) (fun _ kv _ => (intOf kv).toNat)
  case atStart => exact ⟨j0, 0, BL, 0, [], by omega, rfl, rfl, rfl, by omega, Lib.hid (fun p hp => by cases hp), HO, Lib.hid (HS.out.mono (Nat.le_refl _) (by omega)), hb, V2, V3, V6, V7, HT⟩
  case round =>
    clear HO HS hb V2 V3 V6 V7 HT z2
    obtain ⟨k, m, g, cap, ps, hk, rfl, rfl, hl, hmk, HW, HO, HS, hb, V2, V3, V6, V7, HT⟩ := hrel
    by_cases hk0 : 0 < k
    · have hk0I : (0 : Int) < (k : Int) := by omega
      obtain ⟨j, rfl⟩ : ∃ j, k = j + 1 := ⟨k - 1, by omega⟩
      have wk : IntKind.i64.wrap (((j + 1 : Nat) : Int) - 1) = (j : Int) := by rw [show ((j + 1 : Nat) : Int) - 1 = j by omega]; exact IntWalk.i64_in _ (by omega)
      have hgl := HO.out.lt g rfl
      go_wp2_with fail
      refine (l12Some_any P C n B7 (B1 + 1) B1 _ _ HGD.out h9 (bat_of V7.out) (by omega) HS.out (by omega) (by have := V7.out.lt; omega)).mono ?_
      rintro e w5 ⟨p, hpw, rfl, s5, g5⟩
      replace V2 := Lib.hid (V2.out.grown g5 (by simp; omega))
      replace V3 := Lib.hid (V3.out.grown g5 (by simp; omega))
      replace HS := Lib.hid s5
      replace hb := hb.grown g5 hb.size (fun q h => by cases h; omega)
      replace V6 := Lib.hid (V6.out.grown g5 (by simp; omega))
      replace HT := Lib.hid (HT.out.store g5 (by omega))
      replace V7 := Lib.hid (V7.out.grown g5 (by simp; omega))
      replace HO := Lib.hid (own_aside HO.out g5 (by first | omega | (dsimp only; omega)))
      clear s5 g5 hgl
      have hx : Below w5.heap.size w5 (w5.alloc (.cells #[.int .i64 p.row, .int .i64 p.col, .bool p.down, .string p.word] 30)) := (Below.refl _ _).alloc (Nat.le_refl _) _
      have V10 := Lib.hid (VarAt.new w5 30 [.int .i64 p.row, .int .i64 p.col, .bool p.down, .string p.word])
      have hz10 : B7 < w5.heap.size := V7.out.lt
      replace V2 := Lib.hid (V2.out.kept hx)
      replace V3 := Lib.hid (V3.out.kept hx)
      replace HS := Lib.hid (HS.out.kept hx)
      replace hb := hb.trans (Below.mono hx hb.size)
      replace V6 := Lib.hid (V6.out.kept hx)
      replace HT := Lib.hid (HT.out.kept hx)
      replace V7 := Lib.hid (V7.out.kept hx)
      replace HO := Lib.hid (own_below HO.out hx)
      clear hx
      go_upto_region 9 with fail
      generalize w5.alloc (.cells #[.int .i64 p.row, .int .i64 p.col, .bool p.down, .string p.word] 30) = w6 at *
      generalize w5.heap.size = B10 at *
      have u0 := V10.out.cell (i := 0) (v := .int .i64 p.row) rfl
      have u1 := V10.out.cell (i := 1) (v := .int .i64 p.col) rfl
      have u2 := V10.out.cell (i := 2) (v := .bool p.down) rfl
      have u3 := V10.out.cell (i := 3) (v := .string p.word) rfl
      have HOK := Lib.hid (fun W h => l12Ok_any ⟨n, P, C⟩ p B7 0 W h ⟨by show P.size ≤ _; omega, by show C.size ≤ _; omega⟩ (Nat.le_trans hpw (by decide)))
      generalize Brd.okPlay ⟨n, P, C⟩ p = yk at *
      go_wp2_with fail
      refine (HOK.out _ (bat_of V7.out)).mono ?_
      rintro e w7 ⟨rfl, hd⟩
      clear u0 u1 u2 u3 HOK
      replace V10 := Lib.hid (V10.out.kept hd)
      replace V2 := Lib.hid (V2.out.kept hd)
      replace V3 := Lib.hid (V3.out.kept hd)
      replace HS := Lib.hid (HS.out.kept hd)
      replace hb := hb.trans (Below.mono hd hb.size)
      replace V6 := Lib.hid (V6.out.kept hd)
      replace HT := Lib.hid (HT.out.kept hd)
      replace V7 := Lib.hid (V7.out.kept hd)
      replace HO := Lib.hid (own_below HO.out hd)
      clear hd
      cases yk with
      | true =>
        go_upto_region 10 with fail
        have u0 := V10.out.cell (i := 0) (v := .int .i64 p.row) rfl
        have u1 := V10.out.cell (i := 1) (v := .int .i64 p.col) rfl
        have u2 := V10.out.cell (i := 2) (v := .bool p.down) rfl
        have u3 := V10.out.cell (i := 3) (v := .string p.word) rfl
        have hx : Below w7.heap.size w7 (w7.alloc (.cells #[.int .i64 p.row, .int .i64 p.col, .bool p.down, .string p.word] 30)) := (Below.refl _ _).alloc (Nat.le_refl _) _
        have KN := Lib.hid (new_ply w7 p 30)
        have hgx : BL ≤ (w7.alloc (.cells #[.int .i64 p.row, .int .i64 p.col, .bool p.down, .string p.word] 30)).heap.size := by have := (HO.out.lt g rfl).1; have := (HO.out.lt g rfl).2; simp only [World.size_alloc]; omega
        replace V2 := Lib.hid (V2.out.kept hx)
        replace V3 := Lib.hid (V3.out.kept hx)
        replace HS := Lib.hid (HS.out.kept hx)
        replace hb := hb.trans (Below.mono hx hb.size)
        replace V6 := Lib.hid (V6.out.kept hx)
        replace HT := Lib.hid (HT.out.kept hx)
        replace V7 := Lib.hid (V7.out.kept hx)
        replace HO := Lib.hid (own_below HO.out hx)
        clear hx
        go_wp2_with (at_builtin; go_must (refine wpList_append_lies _ rfl (.tmp 32) (.tmp 34) 57 rfl BL 30 i0 _ 4 40 Tryz.underlying57 hi0 hi1 hi2 hi3 rfl (by decide) _ m (ps.flatMap Ply.enc) (by rfl) HO.out ⟨w7.heap.size, 0, none⟩ 1 1 (Ply.enc p) (by rfl) rfl KN.out (ply_cell p) (by decide) ?c1 ?c2 hgx _ rfl ?_))
        case c1 => unfold maxLen; omega
        case c2 => omega
        intro g8 cap8 w8 hown hgr hwh hlt8
        have hg := (HO.out.lt g rfl).1
        replace V2 := Lib.hid (V2.out.grown hgr (by intro e; have e9 : w.heap.size = g := Option.some.inj e; omega))
        replace V3 := Lib.hid (V3.out.grown hgr (by intro e; have e9 : w.heap.size + 1 = g := Option.some.inj e; omega))
        replace V6 := Lib.hid (V6.out.grown hgr (by intro e; have e9 : B6 = g := Option.some.inj e; omega))
        replace V7 := Lib.hid (V7.out.grown hgr (by intro e; have e9 : B7 = g := Option.some.inj e; omega))
        replace HS := Lib.hid (HS.out.grown hgr (fun g' e => by have e9 : g = g' := Option.some.inj e; omega))
        replace HT := Lib.hid (own_far (g := g) HT.out hgr (fun k e => by have := HV.out.1 k e; omega) (fun k e => by have := HV.out.2 k e; omega))
        replace hb := hb.grown hgr hb.size (fun q h => by have e9 : g = q := Option.some.inj h; omega)
        replace HO : Hid (w8.ownsRow BL 30 4 (.slice (some ⟨g8, 0, none⟩) (m + 1) cap8) (m + 1) ((ps ++ [p]).flatMap Ply.enc)) := Lib.hid (by rw [snoc_flat Ply.enc]; exact hown)
        have HW9 : Hid (∀ r ∈ ps ++ [p], r.word.size ≤ 20) := Lib.hid (fun r hr => by
          simp only [List.mem_append, List.mem_singleton] at hr
          rcases hr with hr | rfl
          · exact HW.out r hr
          · exact hpw)
        have hl9 : (ps ++ [p]).length = m + 1 := by rw [List.length_append, hl]; rfl
        replace HS := Lib.hid (HS.out.mono (Nat.le_refl _) (show _ ≤ 400 + 30 * (20 - j) by omega))
        clear hown hgr hwh hlt8 KN HW u0 u1 u2 u3 V10 hgx hg
        go_wp2
        go_roundw
        case rel => exact ⟨j, m + 1, g8, cap8, ps ++ [p], by omega, rfl, rfl, hl9, by omega, HW9, HO, HS, hb, V2, V3, V6, V7, HT⟩
        case measure => simp [intOf]
      | false =>
        go_wp2_with fail
        have hgl := HO.out.lt g rfl
        refine (one_any 40 (B1 + 1) B1 _ _ HS.out (by omega)).mono ?_
        rintro e w8 ⟨y, rfl, s8, g8⟩
        replace V10 := Lib.hid (V10.out.grown g8 (by simp; omega))
        replace V2 := Lib.hid (V2.out.grown g8 (by simp; omega))
        replace V3 := Lib.hid (V3.out.grown g8 (by simp; omega))
        replace HS := Lib.hid s8
        replace hb := hb.grown g8 hb.size (fun q h => by cases h; omega)
        replace V6 := Lib.hid (V6.out.grown g8 (by simp; omega))
        replace HT := Lib.hid (HT.out.store g8 (by omega))
        replace V7 := Lib.hid (V7.out.grown g8 (by simp; omega))
        replace HO := Lib.hid (own_aside HO.out g8 (by first | omega | (dsimp only; omega)))
        clear s8 g8 hgl
        cases y with
        | true =>
          go_upto_region 10 with fail
          have u0 := V10.out.cell (i := 0) (v := .int .i64 p.row) rfl
          have u1 := V10.out.cell (i := 1) (v := .int .i64 p.col) rfl
          have u2 := V10.out.cell (i := 2) (v := .bool p.down) rfl
          have u3 := V10.out.cell (i := 3) (v := .string p.word) rfl
          have hx : Below w8.heap.size w8 (w8.alloc (.cells #[.int .i64 p.row, .int .i64 p.col, .bool p.down, .string p.word] 30)) := (Below.refl _ _).alloc (Nat.le_refl _) _
          have KN := Lib.hid (new_ply w8 p 30)
          have hgx : BL ≤ (w8.alloc (.cells #[.int .i64 p.row, .int .i64 p.col, .bool p.down, .string p.word] 30)).heap.size := by have := (HO.out.lt g rfl).1; have := (HO.out.lt g rfl).2; simp only [World.size_alloc]; omega
          replace V2 := Lib.hid (V2.out.kept hx)
          replace V3 := Lib.hid (V3.out.kept hx)
          replace HS := Lib.hid (HS.out.kept hx)
          replace hb := hb.trans (Below.mono hx hb.size)
          replace V6 := Lib.hid (V6.out.kept hx)
          replace HT := Lib.hid (HT.out.kept hx)
          replace V7 := Lib.hid (V7.out.kept hx)
          replace HO := Lib.hid (own_below HO.out hx)
          clear hx
          go_wp2_with (at_builtin; go_must (refine wpList_append_lies _ rfl (.tmp 32) (.tmp 34) 57 rfl BL 30 i0 _ 4 40 Tryz.underlying57 hi0 hi1 hi2 hi3 rfl (by decide) _ m (ps.flatMap Ply.enc) (by rfl) HO.out ⟨w8.heap.size, 0, none⟩ 1 1 (Ply.enc p) (by rfl) rfl KN.out (ply_cell p) (by decide) ?c1 ?c2 hgx _ rfl ?_))
          case c1 => unfold maxLen; omega
          case c2 => omega
          intro g8 cap8 w8 hown hgr hwh hlt8
          have hg := (HO.out.lt g rfl).1
          replace V2 := Lib.hid (V2.out.grown hgr (by intro e; have e9 : w.heap.size = g := Option.some.inj e; omega))
          replace V3 := Lib.hid (V3.out.grown hgr (by intro e; have e9 : w.heap.size + 1 = g := Option.some.inj e; omega))
          replace V6 := Lib.hid (V6.out.grown hgr (by intro e; have e9 : B6 = g := Option.some.inj e; omega))
          replace V7 := Lib.hid (V7.out.grown hgr (by intro e; have e9 : B7 = g := Option.some.inj e; omega))
          replace HS := Lib.hid (HS.out.grown hgr (fun g' e => by have e9 : g = g' := Option.some.inj e; omega))
          replace HT := Lib.hid (own_far (g := g) HT.out hgr (fun k e => by have := HV.out.1 k e; omega) (fun k e => by have := HV.out.2 k e; omega))
          replace hb := hb.grown hgr hb.size (fun q h => by have e9 : g = q := Option.some.inj h; omega)
          replace HO : Hid (w8.ownsRow BL 30 4 (.slice (some ⟨g8, 0, none⟩) (m + 1) cap8) (m + 1) ((ps ++ [p]).flatMap Ply.enc)) := Lib.hid (by rw [snoc_flat Ply.enc]; exact hown)
          have HW9 : Hid (∀ r ∈ ps ++ [p], r.word.size ≤ 20) := Lib.hid (fun r hr => by
            simp only [List.mem_append, List.mem_singleton] at hr
            rcases hr with hr | rfl
            · exact HW.out r hr
            · exact hpw)
          have hl9 : (ps ++ [p]).length = m + 1 := by rw [List.length_append, hl]; rfl
          replace HS := Lib.hid (HS.out.mono (Nat.le_refl _) (show _ ≤ 400 + 30 * (20 - j) by omega))
          clear hown hgr hwh hlt8 KN HW u0 u1 u2 u3 V10 hgx hg
          go_wp2
          go_roundw
          case rel => exact ⟨j, m + 1, g8, cap8, ps ++ [p], by omega, rfl, rfl, hl9, by omega, HW9, HO, HS, hb, V2, V3, V6, V7, HT⟩
          case measure => simp [intOf]
        | false =>
          replace HS := Lib.hid (HS.out.mono (Nat.le_refl _) (show _ ≤ 400 + 30 * (20 - j) by omega))
          clear V10
          go_wp2
          go_roundw
          case rel => exact ⟨j, m, g, cap, ps, by omega, rfl, rfl, hl, by omega, HW, HO, HS, hb, V2, V3, V6, V7, HT⟩
          case measure => simp [intOf]
    · have hk0I : ¬ (0 : Int) < (k : Int) := by omega
      have hgl := HO.out.lt g rfl
      go_wp2_with fail
      refine (one_any 20 (B1 + 1) B1 _ _ HS.out (by omega)).mono ?_
      rintro e w5 ⟨y, rfl, s5, g5⟩
      replace V2 := Lib.hid (V2.out.grown g5 (by simp; omega))
      replace V3 := Lib.hid (V3.out.grown g5 (by simp; omega))
      replace HS := Lib.hid s5
      replace hb := hb.grown g5 hb.size (fun q h => by cases h; omega)
      replace V6 := Lib.hid (V6.out.grown g5 (by simp; omega))
      replace HT := Lib.hid (HT.out.store g5 (by omega))
      replace V7 := Lib.hid (V7.out.grown g5 (by simp; omega))
      replace HO := Lib.hid (own_aside HO.out g5 (by first | omega | (dsimp only; omega)))
      clear s5 g5
      cases y with
      | false =>
        generalize w5 = wE at *
        go_upto_region 13 with fail
        have hd : Below wE.heap.size wE wE.drew := (Below.refl _ _).drew
        replace V2 := Lib.hid (V2.out.kept hd)
        replace V3 := Lib.hid (V3.out.kept hd)
        replace HS := Lib.hid (HS.out.kept hd)
        replace hb := hb.trans (Below.mono hd hb.size)
        replace V6 := Lib.hid (V6.out.kept hd)
        replace HT := Lib.hid (HT.out.kept hd)
        replace V7 := Lib.hid (V7.out.kept hd)
        replace HO := Lib.hid (own_below HO.out hd)
        clear hd
        have hg := (HO.out.lt g rfl).1
        refine wp_region_held_drew (S := fun W => W.rangeAt B6 0 [.string x.letters, .slice q.values.a x.values.length q.values.c, .slice q.counts.a x.counts.length q.counts.c, .int .i64 x.blanks] ∧ W.rangeAt B7 0 [.int .i64 (n : Int), .string P, .string C]) (by kernel_rfl) ⟨V6.out.range, V7.out.range⟩ (fun hHeld => ?_)
        have hS9 : World.rangeAt (World.drew wE) B6 0 [.string x.letters, .slice q.values.a x.values.length q.values.c, .slice q.counts.a x.counts.length q.counts.c, .int .i64 x.blanks] ∧ World.rangeAt (World.drew wE) B7 0 [.int .i64 (n : Int), .string P, .string C] := ⟨V6.out.range, V7.out.range⟩
        generalize World.drew wE = wD at *
        refine slotA 0 40 (.agg #[.string x.letters, .slice q.values.a x.values.length q.values.c, .slice q.counts.a x.counts.length q.counts.c, .int .i64 x.blanks]) ?_ (hy := yieldsIf_load_mid (by rfl) 44 _ rfl B6 0 rfl [.string x.letters, .slice q.values.a x.values.length q.values.c, .slice q.counts.a x.counts.length q.counts.c, .int .i64 x.blanks] _ (fun w' hS => hS.1) Tryz.underlying44 rfl (by kernel_rfl))
        simp only [S3]
        refine slotA 1 41 (.agg #[.int .i64 (n : Int), .string P, .string C]) ?_ (hy := yieldsIf_load_mid (by rfl) 25 _ rfl B7 0 rfl [.int .i64 (n : Int), .string P, .string C] _ (fun w' hS => hS.2) Tryz.underlying25 rfl (by kernel_rfl))
        simp only [S3]
        refine slotA 2 42 (.slice (some ⟨g, 0, none⟩) m cap) ?_
        simp only [S3]
        clear hHeld hS9
        refine wpAnyH_ready (rs := [3]) (by kernel_rfl) (by simp) ?_
        refine AllReadyH.cons (o := _) rfl (fun K hK => ?_) AllReadyH.nil
        obtain ⟨o2, GG⟩ := V2.out.put [.string x.letters, .slice q.values.a x.values.length q.values.c, .slice q.counts.a x.counts.length q.counts.c, .int .i64 x.blanks] rfl
        have tR := V2.out.there (n := 4) rfl
        refine mk_store rfl rfl 44 (.tmp 2) (.tmp 40) rfl w.heap.size 0 #[.string x.letters, .slice q.values.a x.values.length q.values.c, .slice q.counts.a x.counts.length q.counts.c, .int .i64 x.blanks] rfl rfl tR (by kernel_rfl) (by simp [Value.oneCell']) ?_
        replace hb := hb.grown GG hb.size (fun q h => by cases h; omega)
        replace V6 := Lib.hid (V6.out.grown GG (by simp; omega))
        replace V7 := Lib.hid (V7.out.grown GG (by simp; omega))
        replace HT := Lib.hid (HT.out.store GG (by omega))
        replace HO := Lib.hid (own_aside HO.out GG (by first | omega | (dsimp only; omega)))
        replace V3 := Lib.hid (V3.out.grown GG (by simp <;> omega))
        replace V2 := Lib.hid o2
        refine hK.out _ _ ⟨V6.out.range, V7.out.range⟩ (fun hHeld9 => ?_)
        clear hK K tR o2 GG hHeld9
        change wpAnyH _ _ _ _ _ _ _ _ (World.setCells _ w.heap.size 0 [.string x.letters, .slice q.values.a x.values.length q.values.c, .slice q.counts.a x.counts.length q.counts.c, .int .i64 x.blanks])
        generalize World.setCells _ w.heap.size 0 [.string x.letters, .slice q.values.a x.values.length q.values.c, .slice q.counts.a x.counts.length q.counts.c, .int .i64 x.blanks] = wz at *
        refine wpAnyH_ready (rs := [4]) (by kernel_rfl) (by simp) ?_
        refine AllReadyH.cons (o := _) rfl (fun K hK => ?_) AllReadyH.nil
        obtain ⟨o2, GG⟩ := V3.out.put [.int .i64 (n : Int), .string P, .string C] rfl
        have tR := V3.out.there (n := 3) rfl
        refine mk_store rfl rfl 25 (.tmp 3) (.tmp 41) rfl (w.heap.size + 1) 0 #[.int .i64 (n : Int), .string P, .string C] rfl rfl tR (by kernel_rfl) (by simp [Value.oneCell']) ?_
        replace hb := hb.grown GG hb.size (fun q h => by cases h; omega)
        replace V6 := Lib.hid (V6.out.grown GG (by simp; omega))
        replace V7 := Lib.hid (V7.out.grown GG (by simp; omega))
        replace HT := Lib.hid (HT.out.store GG (by omega))
        replace HO := Lib.hid (own_aside HO.out GG (by first | omega | (dsimp only; omega)))
        replace V2 := Lib.hid (V2.out.grown GG (by simp <;> omega))
        replace V3 := Lib.hid o2
        refine hK.out _ _ ⟨V6.out.range, V7.out.range⟩ (fun hHeld9 => ?_)
        clear hK K tR o2 GG hHeld9
        change wpAnyH _ _ _ _ _ _ _ _ (World.setCells _ (w.heap.size + 1) 0 [.int .i64 (n : Int), .string P, .string C])
        generalize World.setCells _ (w.heap.size + 1) 0 [.int .i64 (n : Int), .string P, .string C] = wz at *
        refine slotA 5 4 (.slice (some ⟨g, 0, none⟩) m cap) ?_ (hS := ⟨V6.out.range, V7.out.range⟩)
        simp only [S3]
        refine wpAnyH_done (by kernel_rfl) ?_ _
        have e0 := V2.out.cell (i := 0) (v := .string x.letters) rfl
        have e1 := V2.out.cell (i := 1) (v := .slice q.values.a x.values.length q.values.c) rfl
        have e2 := V2.out.cell (i := 2) (v := .slice q.counts.a x.counts.length q.counts.c) rfl
        have e3 := V2.out.cell (i := 3) (v := .int .i64 x.blanks) rfl
        have u0 := V3.out.cell (i := 0) (v := .int .i64 (n : Int)) rfl
        have u1 := V3.out.cell (i := 1) (v := .string P) rfl
        have u2 := V3.out.cell (i := 2) (v := .string C) rfl
        clear V2 V3 V6 V7
        go_wp2
        refine bodyPost_ret (v := .tuple #[.agg #[.string x.letters, .slice q.values.a x.values.length q.values.c, .slice q.counts.a x.counts.length q.counts.c, .int .i64 x.blanks], .agg #[.int .i64 (n : Int), .string P, .string C], .slice (some ⟨g, 0, none⟩) m cap]) (by simp [results, Tryz.results35, go_sem, e0, e1, e2, e3, u0, u1, u2]) rfl ?_
        exact ⟨x, q, ⟨(n : Int), P, C⟩, ps, g, m, cap, l1, l2, l3, hP1, hC1, hl, by omega, HW.out, rfl, Tls.Own.at HT.out, own_slice Ply.enc_len HO.out hl.symm, hb⟩
      | true =>
        go_wp2_with fail
        refine (l11Bent_any (B1 + 1) B1 _ _ HS.out (by omega) (by have := V7.out.lt; omega)).mono ?_
        rintro e w6 ⟨⟨bs, bp, bc⟩, hbp, hbc, rfl, s6, g6⟩
        replace V2 := Lib.hid (V2.out.grown g6 (by simp; omega))
        replace V3 := Lib.hid (V3.out.grown g6 (by simp; omega))
        replace HS := Lib.hid s6
        replace hb := hb.grown g6 hb.size (fun q h => by cases h; omega)
        replace V6 := Lib.hid (V6.out.grown g6 (by simp; omega))
        replace HT := Lib.hid (HT.out.store g6 (by omega))
        replace V7 := Lib.hid (V7.out.grown g6 (by simp; omega))
        replace HO := Lib.hid (own_aside HO.out g6 (by first | omega | (dsimp only; omega)))
        clear s6 g6
        replace hbp : bp.size ≤ 300 := hbp
        replace hbc : bc.size ≤ 300 := hbc
        have c0 := V7.out.cell (i := 0) rfl
        have c1 := V7.out.cell (i := 1) rfl
        have c2 := V7.out.cell (i := 2) rfl
        have f0 := V7.out.free 0
        have f1 := V7.out.free 1
        have f2 := V7.out.free 2
        obtain ⟨o0, k0⟩ := V7.out.set 0 (.int .i64 bs)
        obtain ⟨o1, k1⟩ := o0.set 1 (.string bp)
        obtain ⟨o2, k2⟩ := o1.set 2 (.string bc)
        have GG := grownBy_trans (grownBy_trans k0 k1) k2
        clear o0 o1 k0 k1 k2
        replace V2 := Lib.hid (V2.out.grown GG (by simp; omega))
        replace V3 := Lib.hid (V3.out.grown GG (by simp; omega))
        replace V6 := Lib.hid (V6.out.grown GG (by simp; omega))
        replace HT := Lib.hid (own_far HT.out GG (fun k e => by have := HV.out.1 k e; omega) (fun k e => by have := HV.out.2 k e; omega))
        replace HS := Lib.hid (HS.out.grown GG (fun g e => by cases e; omega))
        replace HO := Lib.hid (own_aside HO.out GG (by first | omega | (dsimp only; omega)))
        replace hb := hb.grown GG hb.size (fun q h => by cases h; omega)
        replace V7 := Lib.hid o2
        clear o2 GG
        go_upto_region 13 with fail
        clear c0 c1 c2 f0 f1 f2
        generalize World.setCell _ ⟨B7, 2, none⟩ _ = wE at *
        go_upto_region 13 with fail
        have hd : Below wE.heap.size wE wE.drew := (Below.refl _ _).drew
        replace V2 := Lib.hid (V2.out.kept hd)
        replace V3 := Lib.hid (V3.out.kept hd)
        replace HS := Lib.hid (HS.out.kept hd)
        replace hb := hb.trans (Below.mono hd hb.size)
        replace V6 := Lib.hid (V6.out.kept hd)
        replace HT := Lib.hid (HT.out.kept hd)
        replace V7 := Lib.hid (V7.out.kept hd)
        replace HO := Lib.hid (own_below HO.out hd)
        clear hd
        have hg := (HO.out.lt g rfl).1
        refine wp_region_held_drew (S := fun W => W.rangeAt B6 0 [.string x.letters, .slice q.values.a x.values.length q.values.c, .slice q.counts.a x.counts.length q.counts.c, .int .i64 x.blanks] ∧ W.rangeAt B7 0 [.int .i64 bs, .string bp, .string bc]) (by kernel_rfl) ⟨V6.out.range, V7.out.range⟩ (fun hHeld => ?_)
        have hS9 : World.rangeAt (World.drew wE) B6 0 [.string x.letters, .slice q.values.a x.values.length q.values.c, .slice q.counts.a x.counts.length q.counts.c, .int .i64 x.blanks] ∧ World.rangeAt (World.drew wE) B7 0 [.int .i64 bs, .string bp, .string bc] := ⟨V6.out.range, V7.out.range⟩
        generalize World.drew wE = wD at *
        refine slotA 0 40 (.agg #[.string x.letters, .slice q.values.a x.values.length q.values.c, .slice q.counts.a x.counts.length q.counts.c, .int .i64 x.blanks]) ?_ (hy := yieldsIf_load_mid (by rfl) 44 _ rfl B6 0 rfl [.string x.letters, .slice q.values.a x.values.length q.values.c, .slice q.counts.a x.counts.length q.counts.c, .int .i64 x.blanks] _ (fun w' hS => hS.1) Tryz.underlying44 rfl (by kernel_rfl))
        simp only [S3]
        refine slotA 1 41 (.agg #[.int .i64 bs, .string bp, .string bc]) ?_ (hy := yieldsIf_load_mid (by rfl) 25 _ rfl B7 0 rfl [.int .i64 bs, .string bp, .string bc] _ (fun w' hS => hS.2) Tryz.underlying25 rfl (by kernel_rfl))
        simp only [S3]
        refine slotA 2 42 (.slice (some ⟨g, 0, none⟩) m cap) ?_
        simp only [S3]
        clear hHeld hS9
        refine wpAnyH_ready (rs := [3]) (by kernel_rfl) (by simp) ?_
        refine AllReadyH.cons (o := _) rfl (fun K hK => ?_) AllReadyH.nil
        obtain ⟨o2, GG⟩ := V2.out.put [.string x.letters, .slice q.values.a x.values.length q.values.c, .slice q.counts.a x.counts.length q.counts.c, .int .i64 x.blanks] rfl
        have tR := V2.out.there (n := 4) rfl
        refine mk_store rfl rfl 44 (.tmp 2) (.tmp 40) rfl w.heap.size 0 #[.string x.letters, .slice q.values.a x.values.length q.values.c, .slice q.counts.a x.counts.length q.counts.c, .int .i64 x.blanks] rfl rfl tR (by kernel_rfl) (by simp [Value.oneCell']) ?_
        replace hb := hb.grown GG hb.size (fun q h => by cases h; omega)
        replace V6 := Lib.hid (V6.out.grown GG (by simp; omega))
        replace V7 := Lib.hid (V7.out.grown GG (by simp; omega))
        replace HT := Lib.hid (HT.out.store GG (by omega))
        replace HO := Lib.hid (own_aside HO.out GG (by first | omega | (dsimp only; omega)))
        replace V3 := Lib.hid (V3.out.grown GG (by simp <;> omega))
        replace V2 := Lib.hid o2
        refine hK.out _ _ ⟨V6.out.range, V7.out.range⟩ (fun hHeld9 => ?_)
        clear hK K tR o2 GG hHeld9
        change wpAnyH _ _ _ _ _ _ _ _ (World.setCells _ w.heap.size 0 [.string x.letters, .slice q.values.a x.values.length q.values.c, .slice q.counts.a x.counts.length q.counts.c, .int .i64 x.blanks])
        generalize World.setCells _ w.heap.size 0 [.string x.letters, .slice q.values.a x.values.length q.values.c, .slice q.counts.a x.counts.length q.counts.c, .int .i64 x.blanks] = wz at *
        refine wpAnyH_ready (rs := [4]) (by kernel_rfl) (by simp) ?_
        refine AllReadyH.cons (o := _) rfl (fun K hK => ?_) AllReadyH.nil
        obtain ⟨o2, GG⟩ := V3.out.put [.int .i64 bs, .string bp, .string bc] rfl
        have tR := V3.out.there (n := 3) rfl
        refine mk_store rfl rfl 25 (.tmp 3) (.tmp 41) rfl (w.heap.size + 1) 0 #[.int .i64 bs, .string bp, .string bc] rfl rfl tR (by kernel_rfl) (by simp [Value.oneCell']) ?_
        replace hb := hb.grown GG hb.size (fun q h => by cases h; omega)
        replace V6 := Lib.hid (V6.out.grown GG (by simp; omega))
        replace V7 := Lib.hid (V7.out.grown GG (by simp; omega))
        replace HT := Lib.hid (HT.out.store GG (by omega))
        replace HO := Lib.hid (own_aside HO.out GG (by first | omega | (dsimp only; omega)))
        replace V2 := Lib.hid (V2.out.grown GG (by simp <;> omega))
        replace V3 := Lib.hid o2
        refine hK.out _ _ ⟨V6.out.range, V7.out.range⟩ (fun hHeld9 => ?_)
        clear hK K tR o2 GG hHeld9
        change wpAnyH _ _ _ _ _ _ _ _ (World.setCells _ (w.heap.size + 1) 0 [.int .i64 bs, .string bp, .string bc])
        generalize World.setCells _ (w.heap.size + 1) 0 [.int .i64 bs, .string bp, .string bc] = wz at *
        refine slotA 5 4 (.slice (some ⟨g, 0, none⟩) m cap) ?_ (hS := ⟨V6.out.range, V7.out.range⟩)
        simp only [S3]
        refine wpAnyH_done (by kernel_rfl) ?_ _
        have e0 := V2.out.cell (i := 0) (v := .string x.letters) rfl
        have e1 := V2.out.cell (i := 1) (v := .slice q.values.a x.values.length q.values.c) rfl
        have e2 := V2.out.cell (i := 2) (v := .slice q.counts.a x.counts.length q.counts.c) rfl
        have e3 := V2.out.cell (i := 3) (v := .int .i64 x.blanks) rfl
        have u0 := V3.out.cell (i := 0) (v := .int .i64 bs) rfl
        have u1 := V3.out.cell (i := 1) (v := .string bp) rfl
        have u2 := V3.out.cell (i := 2) (v := .string bc) rfl
        clear V2 V3 V6 V7
        go_wp2
        refine bodyPost_ret (v := .tuple #[.agg #[.string x.letters, .slice q.values.a x.values.length q.values.c, .slice q.counts.a x.counts.length q.counts.c, .int .i64 x.blanks], .agg #[.int .i64 bs, .string bp, .string bc], .slice (some ⟨g, 0, none⟩) m cap]) (by simp [results, Tryz.results35, go_sem, e0, e1, e2, e3, u0, u1, u2]) rfl ?_
        exact ⟨x, q, ⟨bs, bp, bc⟩, ps, g, m, cap, l1, l2, l3, hbp, hbc, hl, by omega, HW.out, rfl, Tls.Own.at HT.out, own_slice Ply.enc_len HO.out hl.symm, hb⟩
end Go.Proofs.YtjdcdhhbgijaoaaGreatDoor
