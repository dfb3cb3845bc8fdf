/- What comes in, read: a tile set. No condition beyond the form that the statements' frame gives. · The statement FnExactScorePlay: the program's score of a play is the reference's. Go's tables of unicode and unicode/utf8 hold what is laid (CEnv). -/
import Derived.Test.YtoeoijkhlpacdaaGreatDoorFrame
import Derived.Test.YtoeoijkhlpacdaaGreatDoorTTile
import Derived.Test.YtoeoijkhlpacdaaGreatDoorScL
import Derived.Test.YtoeoijkhlpacdaaGreatDoorTBoard
import Derived.Test.YtoeoijkhlpacdaaGreatDoorTPlay
import Derived.Test.YtoeoijkhlpacdaaGreatDoorCEnv
namespace Go.Proofs.YtoeoijkhlpacdaaGreatDoor
open Go.ChangeShapes Go.WideShapes Go.ChangeAt Go.RowKit Go.Sort Go.Joins Go.Deep
open Go.ChangeMaps (open_string shut_string)

section
variable {H : Type} {ec : TypeId × Value → H} {w : World} {base : Nat} {spare : Nat → Bool} {held : Bool}
set_option maxRecDepth 100000 in
theorem I64.read (m : Nat) (cs : List Value) (y : DataW H × List MemPlace) (h : DataW.trod ec Tryz.prog w base spare held m 2 cs = some y) : ∃ a : Int, cs = I64.enc a ∧ True := by
  obtain ⟨x1, e1, _, _⟩ := DataW.trod_int Tryz.underlying2 h
  exact ⟨x1, e1, trivial⟩
set_option maxRecDepth 100000 in
/-- A tile set that came in. -/
theorem TileSet.read {r : Reach} {b0 : Nat} {v : Value} {d : DataW H} {p : List MemPlace} (hv : Value.okWide Tryz.prog w r b0 68 v) (h : DataW.Trod ec Tryz.prog w base spare held 68 v d p) :
    ∃ (x : Tls) (q : TlA), v = .agg #[.string x.letters, .slice q.values.a x.values.length q.values.c, .slice q.counts.a x.counts.length q.counts.c, .int .i64 x.blanks] ∧ x.At q w ∧ x.fit := by
  obtain ⟨cs, rfl, fuel, x, hf⟩ := open_aggs Tryz.underlying68 hv h
  obtain ⟨hl, n, hg⟩ := struct_cells Tryz.underlying68 (by kernel_rfl) (by kernel_rfl) hf
  obtain ⟨v0, y0, h0, t0⟩ := hg 0 _ rfl
  obtain ⟨v1, y1, h1, t1⟩ := hg 1 _ rfl
  obtain ⟨v2, y2, h2, t2⟩ := hg 2 _ rfl
  obtain ⟨v3, y3, h3, t3⟩ := hg 3 _ rfl
  obtain ⟨s0, e0, _, b0⟩ := DataW.trod_string Tryz.underlying9 t0
  obtain ⟨a1, cap1, xs1, rfl, hs1, _, hl1⟩ := read_slice (sz := 1) (enc := I64.enc) (good := fun _ => True) Tryz.underlying66 (by kernel_rfl) (by decide) I64.read t1
  obtain ⟨a2, cap2, xs2, rfl, hs2, _, hl2⟩ := read_slice (sz := 1) (enc := I64.enc) (good := fun _ => True) Tryz.underlying66 (by kernel_rfl) (by decide) I64.read t2
  obtain ⟨x3, e3, _, b3⟩ := DataW.trod_int Tryz.underlying2 t3
  simp only [List.cons.injEq, and_true] at e0 e3
  subst e0 e3
  refine ⟨⟨s0, xs1, xs2, x3⟩, ⟨⟨a1, cap1⟩, ⟨a2, cap2⟩⟩, ?_, ⟨hs1, hs2⟩, by unfold maxLen at b0; (show s0.size ≤ _); omega, hl1, hl2⟩
  match cs, hl with
  | [c0, c1, c2, c3], _ =>
    simp only [List.getElem?_cons_zero, List.getElem?_cons_succ, Option.some.injEq] at h0 h1 h2 h3
    rw [h0, h1, h2, h3]
end
end Go.Proofs.YtoeoijkhlpacdaaGreatDoor

namespace Go.Proofs.YtoeoijkhlpacdaaGreatDoor
open Go.ChangeShapes Go.WideShapes Go.ChangeAt Go.RowKit Go.Sort

theorem score_parts (b : Brd) (p : Ply) (x : Tls) : ∃ s k : Int, ∀ w e w', ScorePost b p x w e w' → e = .returned (.tuple #[.int .i64 s, .int .i64 k]) ∧ Below w.heap.size w w' := by
  cases h : (x.ok && b.okPlay p) with
  | false => exact ⟨0, 1, fun w e w' hw => by unfold ScorePost at hw; rw [h] at hw; exact hw⟩
  | true => exact ⟨b.score p x, 0, fun w e w' hw => by unfold ScorePost at hw; rw [h] at hw; exact hw⟩
set_option maxRecDepth 100000 in
set_option maxHeartbeats 8000000 in
theorem lawScorePlay_any (x : Tls) (q : TlA) (b : Brd) (p : Ply) (w : World) (ha : x.At q w) (hft : x.fit) (hf : b.fit) (hpf : p.fit) (hE : CEnv w) :
    Calls Tryz.prog 7 #[.agg #[.string x.letters, .slice q.values.a x.values.length q.values.c, .slice q.counts.a x.counts.length q.counts.c, .int .i64 x.blanks], .agg #[.int .i64 b.size, .string b.premium, .string b.cells], .agg #[.int .i64 p.row, .int .i64 p.col, .bool p.down, .string p.word]] w fun e w' => e = .returned (.bool true) ∧ Below w.heap.size w w' := by
  obtain ⟨w2, hw2⟩ : ∃ w2, w2 = ((w.alloc (.cells #[.string x.letters, .slice q.values.a x.values.length q.values.c, .slice q.counts.a x.counts.length q.counts.c, .int .i64 x.blanks] 68)).alloc (.cells #[.int .i64 b.size, .string b.premium, .string b.cells] 26)).alloc (.cells #[.int .i64 p.row, .int .i64 p.col, .bool p.down, .string p.word] 55) := ⟨_, rfl⟩
  have hb : Below w.heap.size w w2 := by rw [hw2]; exact (((Below.refl _ _).alloc (Nat.le_refl _) _).alloc (by simp) _).alloc (by simp; omega) _
  have VT : Hid (VarAt w2 w.heap.size 68 [.string x.letters, .slice q.values.a x.values.length q.values.c, .slice q.counts.a x.counts.length q.counts.c, .int .i64 x.blanks]) := by
    rw [hw2]
    exact Lib.hid (((VarAt.new w 68 [.string x.letters, .slice q.values.a x.values.length q.values.c, .slice q.counts.a x.counts.length q.counts.c, .int .i64 x.blanks]).kept ((Below.refl _ _).alloc (Nat.le_refl _) _)).kept ((Below.refl _ _).alloc (Nat.le_refl _) _))
  have VB : Hid (VarAt w2 (w.heap.size + 1) 26 [.int .i64 b.size, .string b.premium, .string b.cells]) := by
    rw [hw2]
    have := (VarAt.new (w.alloc (.cells #[.string x.letters, .slice q.values.a x.values.length q.values.c, .slice q.counts.a x.counts.length q.counts.c, .int .i64 x.blanks] 68)) 26 [.int .i64 b.size, .string b.premium, .string b.cells]).kept ((Below.refl _ _).alloc (Nat.le_refl _) (.cells #[.int .i64 p.row, .int .i64 p.col, .bool p.down, .string p.word] 55))
    simp only [World.size_alloc] at this
    exact Lib.hid this
  have VP : Hid (VarAt w2 (w.heap.size + 2) 55 [.int .i64 p.row, .int .i64 p.col, .bool p.down, .string p.word]) := by
    rw [hw2]
    have := VarAt.new ((w.alloc (.cells #[.string x.letters, .slice q.values.a x.values.length q.values.c, .slice q.counts.a x.counts.length q.counts.c, .int .i64 x.blanks] 68)).alloc (.cells #[.int .i64 b.size, .string b.premium, .string b.cells] 26)) 55 [.int .i64 p.row, .int .i64 p.col, .bool p.down, .string p.word]
    simp only [World.size_alloc] at this
    exact Lib.hid this
  obtain ⟨sv, kc, hsp⟩ := score_parts b p x
  have SA := Lib.hid (ha.kept hb)
  have HSP : Hid (∀ r W, x.At r W → Calls Tryz.prog 37 #[.agg #[.string x.letters, .slice r.values.a x.values.length r.values.c, .slice r.counts.a x.counts.length r.counts.c, .int .i64 x.blanks], .agg #[.int .i64 b.size, .string b.premium, .string b.cells], .agg #[.int .i64 p.row, .int .i64 p.col, .bool p.down, .string p.word]] W fun e w' => e = .returned (.tuple #[.int .i64 sv, .int .i64 kc]) ∧ Below W.heap.size W w') := Lib.hid (fun r W h => (specScorePlay_any x r b p W h hft hf hpf).mono (fun e w' => hsp W e w'))
  have HIM : Hid (x.letters.size ≤ 1048576 → p.word.size ≤ 1048576 → ∀ r W, x.At r W → CEnv W → Calls Tryz.prog 39 #[.agg #[.string x.letters, .slice r.values.a x.values.length r.values.c, .slice r.counts.a x.counts.length r.counts.c, .int .i64 x.blanks], .agg #[.int .i64 b.size, .string b.premium, .string b.cells], .agg #[.int .i64 p.row, .int .i64 p.col, .bool p.down, .string p.word]] W fun e w' => e = .returned (.tuple #[.int .i64 sv, .int .i64 kc]) ∧ Below W.heap.size W w') := Lib.hid (fun h1 h2 r W h he => (ScorePlay_any x r b p W h hft h1 hf h2 he).mono (fun e w' => hsp W e w'))
  have HE := Lib.hid (hE.kept hb)
  have HFT := Lib.hid hft
  have HW2 := Lib.hid hw2
  clear hw2 hsp hE ha hft
  go_enter Tryz.func7, Tryz.ntmps7
  go_upto_region 2 with fail
  rw [← HW2.out]
  clear HW2
  have t0 := VT.out.cell (i := 0) rfl
  have t1 := VT.out.cell (i := 1) rfl
  have t2 := VT.out.cell (i := 2) rfl
  have t3 := VT.out.cell (i := 3) rfl
  go_wp2_with fail
  refine (szTileSet_any x q 1048576 _ SA.out (by omega) (by omega) HFT.out).mono ?_
  rintro e w3 ⟨l1, rfl, z1, hd⟩
  clear t0 t1 t2 t3
  replace hb := hb.trans (hd.mono hb.size)
  replace VB := Lib.hid (VB.out.kept hd)
  replace VP := Lib.hid (VP.out.kept hd)
  replace VT := Lib.hid (VT.out.kept hd)
  replace SA := Lib.hid (SA.out.kept hd)
  replace HE := Lib.hid (HE.out.kept hd)
  clear hd
  rcases z1 with rfl | ⟨y1, z1⟩
  · go_wp2
    go_ret
    exact ⟨rfl, hb⟩
  have n1 : ¬ l1 < 0 := by omega
  have b0 := VB.out.cell (i := 0) rfl
  have b1 := VB.out.cell (i := 1) rfl
  have b2 := VB.out.cell (i := 2) rfl
  go_wp2_with fail
  refine (szBoard_any b l1 _ (by omega) (by omega) hf).mono ?_
  rintro e w4 ⟨l2, rfl, z2, hd⟩
  clear b0 b1 b2
  replace hb := hb.trans (hd.mono hb.size)
  replace VB := Lib.hid (VB.out.kept hd)
  replace VP := Lib.hid (VP.out.kept hd)
  replace VT := Lib.hid (VT.out.kept hd)
  replace SA := Lib.hid (SA.out.kept hd)
  replace HE := Lib.hid (HE.out.kept hd)
  clear hd
  rcases z2 with rfl | ⟨y2, z2⟩
  · go_wp2
    go_ret
    exact ⟨rfl, hb⟩
  have n2 : ¬ l2 < 0 := by omega
  have p0 := VP.out.cell (i := 0) rfl
  have p1 := VP.out.cell (i := 1) rfl
  have p2 := VP.out.cell (i := 2) rfl
  have p3 := VP.out.cell (i := 3) rfl
  go_wp2_with fail
  refine (szPlay_any p l2 _ (by omega) (by omega) hpf).mono ?_
  rintro e w5 ⟨l3, rfl, z3, hd⟩
  clear p0 p1 p2 p3
  replace hb := hb.trans (hd.mono hb.size)
  replace VB := Lib.hid (VB.out.kept hd)
  replace VP := Lib.hid (VP.out.kept hd)
  replace VT := Lib.hid (VT.out.kept hd)
  replace SA := Lib.hid (SA.out.kept hd)
  replace HE := Lib.hid (HE.out.kept hd)
  clear hd
  rcases z3 with rfl | ⟨y3, z3⟩
  · go_wp2
    go_ret
    exact ⟨rfl, hb⟩
  have n3 : ¬ l3 < 0 := by omega
  have hsz : x.letters.size ≤ 1048576 ∧ x.values.length ≤ 1048576 ∧ x.counts.length ≤ 1048576 := by unfold Tls.sz at z1; omega
  have hsm : x.small := ⟨hsz.2.1, hsz.2.2⟩
  have hps : p.word.size ≤ 1048576 := by unfold Ply.sz at z3; omega
  replace HIM := Lib.hid (HIM.out hsz.1 hps)
  clear z1 z2 z3 y1 y2 y3 hps hf hpf hsz
  go_upto_region 11 with fail
  have VX := VT
  have hd : Below w5.heap.size w5 w5.drew := (Below.refl _ _).drew
  clear VT
  replace hb := hb.trans (hd.mono hb.size)
  replace VB := Lib.hid (VB.out.kept hd)
  replace VP := Lib.hid (VP.out.kept hd)
  replace VX := Lib.hid (VX.out.kept hd)
  replace SA := Lib.hid (SA.out.kept hd)
  replace HE := Lib.hid (HE.out.kept hd)
  clear hd
  go_region_held3 (fun w' => w'.cell? ⟨w.heap.size + 1, 0, none⟩ = some (.int .i64 b.size) ∧ w'.cell? ⟨w.heap.size + 1, 1, none⟩ = some (.string b.premium) ∧ w'.cell? ⟨w.heap.size + 1, 2, none⟩ = some (.string b.cells) ∧ w'.cell? ⟨w.heap.size + 2, 0, none⟩ = some (.int .i64 p.row) ∧ w'.cell? ⟨w.heap.size + 2, 1, none⟩ = some (.int .i64 p.col) ∧ w'.cell? ⟨w.heap.size + 2, 2, none⟩ = some (.bool p.down) ∧ w'.cell? ⟨w.heap.size + 2, 3, none⟩ = some (.string p.word) ∧ w'.cell? ⟨w.heap.size, 0, none⟩ = some (.string x.letters) ∧ w'.cell? ⟨w.heap.size, 1, none⟩ = some (.slice q.values.a x.values.length q.values.c) ∧ w'.cell? ⟨w.heap.size, 2, none⟩ = some (.slice q.counts.a x.counts.length q.counts.c) ∧ w'.cell? ⟨w.heap.size, 3, none⟩ = some (.int .i64 x.blanks))
    (exact ⟨VB.out.cell (i := 0) rfl, VB.out.cell (i := 1) rfl, VB.out.cell (i := 2) rfl, VP.out.cell (i := 0) rfl, VP.out.cell (i := 1) rfl, VP.out.cell (i := 2) rfl, VP.out.cell (i := 3) rfl, VX.out.cell (i := 0) rfl, VX.out.cell (i := 1) rfl, VX.out.cell (i := 2) rfl, VX.out.cell (i := 3) rfl⟩)
    (((first | (go_at_call 14; refine (toBoard_any b _).mono ?_; rintro e wq ⟨rfl, hd⟩) | (go_at_call 32; refine (toPlay_any p _).mono ?_; rintro e wq ⟨rfl, hd⟩) | (go_at_call 38; refine (toTileSet_any x q _ SA.out hsm).mono ?_; rintro e wq ⟨rq, rfl, hoq, hd⟩; have SQ := Lib.hid hoq.at; clear hoq) | (go_at_call 37; refine (HSP.out _ _ SQ.out).mono ?_; rintro e wq ⟨rfl, hd⟩)); (try replace SQ := Lib.hid (SQ.out.kept hd)); (try replace S9 := Lib.hid (S9.out.kept hd)); (try replace VT := Lib.hid (VT.out.kept hd)); replace VB := Lib.hid (VB.out.kept hd); replace VP := Lib.hid (VP.out.kept hd); replace VX := Lib.hid (VX.out.kept hd); replace SA := Lib.hid (SA.out.kept hd); replace HE := Lib.hid (HE.out.kept hd); replace hb := hb.trans (hd.mono hb.size); clear hd))
  generalize wq = w6 at *
  have VT := VX
  clear SQ HSP VX
  have t0 := VT.out.cell (i := 0) rfl
  have t1 := VT.out.cell (i := 1) rfl
  have t2 := VT.out.cell (i := 2) rfl
  have t3 := VT.out.cell (i := 3) rfl
  go_wp2_with fail
  refine (toTileSet_any x q _ SA.out hsm).mono ?_
  rintro e w7 ⟨r1, rfl, ho, hd⟩
  have S9 := Lib.hid ho.at
  clear ho t0 t1 t2 t3
  replace hb := hb.trans (hd.mono hb.size)
  replace VB := Lib.hid (VB.out.kept hd)
  replace VP := Lib.hid (VP.out.kept hd)
  replace VT := Lib.hid (VT.out.kept hd)
  replace SA := Lib.hid (SA.out.kept hd)
  replace HE := Lib.hid (HE.out.kept hd)
  clear hd
  have VX := Lib.hid (VarAt.new w7 72 [.string x.letters, .slice r1.values.a x.values.length r1.values.c, .slice r1.counts.a x.counts.length r1.counts.c, .int .i64 x.blanks])
  have hd : Below w7.heap.size w7 (w7.alloc (.cells #[.string x.letters, .slice r1.values.a x.values.length r1.values.c, .slice r1.counts.a x.counts.length r1.counts.c, .int .i64 x.blanks] 72)) := (Below.refl _ _).alloc (Nat.le_refl _) _
  go_upto_region 13 with fail
  replace hb := hb.trans (hd.mono hb.size)
  replace VB := Lib.hid (VB.out.kept hd)
  replace VP := Lib.hid (VP.out.kept hd)
  replace VT := Lib.hid (VT.out.kept hd)
  replace SA := Lib.hid (SA.out.kept hd)
  replace HE := Lib.hid (HE.out.kept hd)
  replace S9 := Lib.hid (S9.out.kept hd)
  clear hd
  generalize w7.alloc (.cells #[.string x.letters, .slice r1.values.a x.values.length r1.values.c, .slice r1.counts.a x.counts.length r1.counts.c, .int .i64 x.blanks] 72) = w8 at *
  generalize w7.heap.size = x1 at *
  have hd : Below w8.heap.size w8 w8.drew := (Below.refl _ _).drew
  replace hb := hb.trans (hd.mono hb.size)
  replace VB := Lib.hid (VB.out.kept hd)
  replace VP := Lib.hid (VP.out.kept hd)
  replace VT := Lib.hid (VT.out.kept hd)
  replace VX := Lib.hid (VX.out.kept hd)
  replace SA := Lib.hid (SA.out.kept hd)
  replace HE := Lib.hid (HE.out.kept hd)
  replace S9 := Lib.hid (S9.out.kept hd)
  clear hd
  go_region_held3 (fun w' => w'.cell? ⟨w.heap.size + 1, 0, none⟩ = some (.int .i64 b.size) ∧ w'.cell? ⟨w.heap.size + 1, 1, none⟩ = some (.string b.premium) ∧ w'.cell? ⟨w.heap.size + 1, 2, none⟩ = some (.string b.cells) ∧ w'.cell? ⟨w.heap.size + 2, 0, none⟩ = some (.int .i64 p.row) ∧ w'.cell? ⟨w.heap.size + 2, 1, none⟩ = some (.int .i64 p.col) ∧ w'.cell? ⟨w.heap.size + 2, 2, none⟩ = some (.bool p.down) ∧ w'.cell? ⟨w.heap.size + 2, 3, none⟩ = some (.string p.word) ∧ w'.cell? ⟨x1, 0, none⟩ = some (.string x.letters) ∧ w'.cell? ⟨x1, 1, none⟩ = some (.slice r1.values.a x.values.length r1.values.c) ∧ w'.cell? ⟨x1, 2, none⟩ = some (.slice r1.counts.a x.counts.length r1.counts.c) ∧ w'.cell? ⟨x1, 3, none⟩ = some (.int .i64 x.blanks))
    (exact ⟨VB.out.cell (i := 0) rfl, VB.out.cell (i := 1) rfl, VB.out.cell (i := 2) rfl, VP.out.cell (i := 0) rfl, VP.out.cell (i := 1) rfl, VP.out.cell (i := 2) rfl, VP.out.cell (i := 3) rfl, VX.out.cell (i := 0) rfl, VX.out.cell (i := 1) rfl, VX.out.cell (i := 2) rfl, VX.out.cell (i := 3) rfl⟩)
    (((first | (go_at_call 14; refine (toBoard_any b _).mono ?_; rintro e wq ⟨rfl, hd⟩) | (go_at_call 32; refine (toPlay_any p _).mono ?_; rintro e wq ⟨rfl, hd⟩) | (go_at_call 38; refine (toTileSet_any x q _ SA.out hsm).mono ?_; rintro e wq ⟨rq, rfl, hoq, hd⟩; have SQ := Lib.hid hoq.at; clear hoq) | (go_at_call 39; refine (HIM.out _ _ S9.out HE.out).mono ?_; rintro e wq ⟨rfl, hd⟩)); (try replace SQ := Lib.hid (SQ.out.kept hd)); (try replace S9 := Lib.hid (S9.out.kept hd)); (try replace VT := Lib.hid (VT.out.kept hd)); replace VB := Lib.hid (VB.out.kept hd); replace VP := Lib.hid (VP.out.kept hd); replace VX := Lib.hid (VX.out.kept hd); replace SA := Lib.hid (SA.out.kept hd); replace HE := Lib.hid (HE.out.kept hd); replace hb := hb.trans (hd.mono hb.size); clear hd))
  generalize wq = w9 at *
  have hk1 : (sv != sv) = false := by simp
  have hk2 : (kc != kc) = false := by simp
  clear VB VP HE HIM
  go_upto_region 16 with fail
  clear hk1 hk2
  have hd : Below w9.heap.size w9 w9.drew := (Below.refl _ _).drew
  replace hb := hb.trans (hd.mono hb.size)
  replace VT := Lib.hid (VT.out.kept hd)
  replace VX := Lib.hid (VX.out.kept hd)
  replace SA := Lib.hid (SA.out.kept hd)
  replace S9 := Lib.hid (S9.out.kept hd)
  clear hd
  go_region_held3 (fun w' => w'.cell? ⟨w.heap.size, 0, none⟩ = some (.string x.letters) ∧ w'.cell? ⟨w.heap.size, 1, none⟩ = some (.slice q.values.a x.values.length q.values.c) ∧ w'.cell? ⟨w.heap.size, 2, none⟩ = some (.slice q.counts.a x.counts.length q.counts.c) ∧ w'.cell? ⟨w.heap.size, 3, none⟩ = some (.int .i64 x.blanks) ∧ w'.cell? ⟨x1, 0, none⟩ = some (.string x.letters) ∧ w'.cell? ⟨x1, 1, none⟩ = some (.slice r1.values.a x.values.length r1.values.c) ∧ w'.cell? ⟨x1, 2, none⟩ = some (.slice r1.counts.a x.counts.length r1.counts.c) ∧ w'.cell? ⟨x1, 3, none⟩ = some (.int .i64 x.blanks))
    (exact ⟨VT.out.cell (i := 0) rfl, VT.out.cell (i := 1) rfl, VT.out.cell (i := 2) rfl, VT.out.cell (i := 3) rfl, VX.out.cell (i := 0) rfl, VX.out.cell (i := 1) rfl, VX.out.cell (i := 2) rfl, VX.out.cell (i := 3) rfl⟩)
    (((first
      | (go_at_call 38; refine (toTileSet_any x q _ SA.out hsm).mono ?_; rintro e wq ⟨rq, rfl, hoq, hd⟩; have SQ := Lib.hid hoq.at; clear hoq)
      | (go_at_call 40; refine (eqTileSet_any x r1 _ _ S9.out SQ.out HFT.out).mono ?_; rintro e wq ⟨rfl, hd⟩)); replace VT := Lib.hid (VT.out.kept hd); replace VX := Lib.hid (VX.out.kept hd); replace SA := Lib.hid (SA.out.kept hd); replace S9 := Lib.hid (S9.out.kept hd); (try replace SQ := Lib.hid (SQ.out.kept hd)); replace hb := hb.trans (hd.mono hb.size); clear hd))
  generalize wq = w10 at *
  go_wp2
  go_ret
  exact ⟨rfl, hb⟩
open Go.Joins Go.Deep Go.Lib in
theorem cenvS_of_laid {W : World} (h : laidMetH Tryz.prog Rows.fnExactScorePlayRow.laid W) : CEnv W := by
  rw [MakeChecks.laidMetH_plain _ _ _ (by kernel_rfl)] at h
  exact cenv_of_met h (List.mem_cons_self) (List.mem_cons_of_mem _ (List.mem_cons_self)) (List.mem_cons_of_mem _ (List.mem_cons_of_mem _ (List.mem_cons_self)))
end Go.Proofs.YtoeoijkhlpacdaaGreatDoor
