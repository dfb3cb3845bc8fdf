/- Contracts: the program's premiums, the scores of letters, the factors of words. For valid  · Contracts: the value of letters: the program and the reference (for seats without games).  · Plain lemmas: sums over a board after a play; the score of a play on the transposed board, · Plain lemmas: the tiles of a board after a play, the squares that it fills. No condition. -/
import Derived.Test.YtjdcdhhbgijaoaaGreatDoorScE
import Derived.Test.YtjdcdhhbgijaoaaGreatDoorTiC
import Derived.Test.YtjdcdhhbgijaoaaGreatDoorPlbH
import Derived.Maps.OwnSet
import Derived.Test.YtjdcdhhbgijaoaaGreatDoorVar
import Derived.Test.YtjdcdhhbgijaoaaGreatDoorBrD
import Derived.Test.YtjdcdhhbgijaoaaGreatDoorJnA
namespace Go.Proofs.YtjdcdhhbgijaoaaGreatDoor
open Go.ChangeShapes Go.WideShapes Go.ChangeAt Go.RowKit Go.Sort Go.Maps

end Go.Proofs.YtjdcdhhbgijaoaaGreatDoor

namespace Go.Proofs.YtjdcdhhbgijaoaaGreatDoor
open Go.ChangeShapes Go.WideShapes Go.ChangeAt Go.RowKit Go.Sort

end Go.Proofs.YtjdcdhhbgijaoaaGreatDoor

namespace Go.Proofs.YtjdcdhhbgijaoaaGreatDoor
open Go.ChangeShapes Go.WideShapes Go.ChangeAt Go.RowKit Go.Sort

end Go.Proofs.YtjdcdhhbgijaoaaGreatDoor

namespace Go.Proofs.YtjdcdhhbgijaoaaGreatDoor
open Go.ChangeShapes Go.WideShapes Go.ChangeAt Go.RowKit Go.Sort

/-- a play lies at a block -/
def PlAt (w : World) (g : Nat) (p : Ply) : Prop :=
  w.cell? ⟨g, 0, none⟩ = some (.int .i64 p.row) ∧ w.cell? ⟨g, 1, none⟩ = some (.int .i64 p.col) ∧ w.cell? ⟨g, 2, none⟩ = some (.bool p.down) ∧ w.cell? ⟨g, 3, none⟩ = some (.string p.word)
theorem PlAt.kept {w w' : World} {g : Nat} {p : Ply} (h : PlAt w g p) (hb : Below w.heap.size w w') : PlAt w' g p := ⟨cell_kept h.1 hb, cell_kept h.2.1 hb, cell_kept h.2.2.1 hb, cell_kept h.2.2.2 hb⟩
theorem PlAt.new (w : World) (p : Ply) (t : TypeId) : PlAt (w.alloc (.cells #[.int .i64 p.row, .int .i64 p.col, .bool p.down, .string p.word] t)) w.heap.size p := ⟨cell_new0 w _ t rfl, cell_new0 w _ t rfl, cell_new0 w _ t rfl, cell_new0 w _ t rfl⟩
end Go.Proofs.YtjdcdhhbgijaoaaGreatDoor

namespace Go.Proofs.YtjdcdhhbgijaoaaGreatDoor
open Go.ChangeShapes Go.WideShapes Go.ChangeAt Go.RowKit Go.Sort

end Go.Proofs.YtjdcdhhbgijaoaaGreatDoor

namespace Go.Proofs.YtjdcdhhbgijaoaaGreatDoor
open Go.ChangeShapes Go.WideShapes Go.ChangeAt Go.RowKit Go.Sort

/-- what lies in memory while the words across are scored -/
structure Held (w : World) (x : Tls) (q : TlA) (b af : Brd) (B0 ga gat cat gws cws base m : Nat) (ats : List (Int × Int)) (sq : Nat → List (Int × Int)) (es : List Ent) : Prop where
  t : VarAt w B0 44 [.string x.letters, .slice q.values.a x.values.length q.values.c, .slice q.counts.a x.counts.length q.counts.c, .int .i64 x.blanks]
  b : VarAt w (B0 + 1) 25 [.int .i64 b.size, .string b.premium, .string b.cells]
  af : VarAt w ga 25 [.int .i64 af.size, .string af.premium, .string af.cells]
  ats : w.ownsRow base 73 2 (.slice (some ⟨gat, 0, none⟩) m cat) m (ats.flatMap Sq.enc)
  ws : w.ownsRow base 65 1 (.slice (some ⟨gws, 0, none⟩) m cws) m (es.flatMap (Ent.enc sq))
  es : EntsAt w base sq es
theorem Held.kept {w w' : World} {x : Tls} {q : TlA} {b af : Brd} {B0 ga gat cat gws cws base m : Nat} {ats : List (Int × Int)} {sq : Nat → List (Int × Int)} {es : List Ent} (h : Held w x q b af B0 ga gat cat gws cws base m ats sq es) (hb : Below w.heap.size w w') : Held w' x q b af B0 ga gat cat gws cws base m ats sq es :=
  ⟨h.t.kept hb, h.b.kept hb, h.af.kept hb, own_below h.ats hb, own_below h.ws hb, h.es.kept hb⟩
theorem Held.grown {w w' : World} {x : Tls} {q : TlA} {b af : Brd} {B0 ga gat cat gws cws base m : Nat} {ats : List (Int × Int)} {sq : Nat → List (Int × Int)} {es : List Ent} (h : Held w x q b af B0 ga gat cat gws cws base m ats sq es) {g : Nat} (hg : w.grownBy w' (some g)) (h1 : B0 + 1 < g) (h2 : ga ≠ g) (h3 : gat ≠ g) (h4 : gws ≠ g) (h5 : ∀ e ∈ es, e.g ≠ g) : Held w' x q b af B0 ga gat cat gws cws base m ats sq es :=
  ⟨h.t.grown hg (by simp; omega), h.b.grown hg (by simp; omega), h.af.grown hg (by simp; omega), h.ats.kept hg (.inr (by simp [Value.ownBlock]; omega)), h.ws.kept hg (.inr (by simp [Value.ownBlock]; omega)), h.es.grown hg h5⟩
end Go.Proofs.YtjdcdhhbgijaoaaGreatDoor

namespace Go.Proofs.YtjdcdhhbgijaoaaGreatDoor
open Go.ChangeShapes Go.WideShapes Go.ChangeAt Go.RowKit Go.Sort

end Go.Proofs.YtjdcdhhbgijaoaaGreatDoor
namespace Go.Proofs.YtjdcdhhbgijaoaaGreatDoor
open Go.ChangeShapes Go.WideShapes Go.ChangeAt Go.RowKit Go.Sort

/-- the value of the first k bytes -/
def Tls.sumK (x : Tls) (s : ByteArray) : Nat → Int
  | 0 => 0
  | k + 1 => x.sumK s k + x.val (s.data.toList.getD k 0)
def Tls.sum (x : Tls) (s : ByteArray) : Int := x.sumK s s.size
end Go.Proofs.YtjdcdhhbgijaoaaGreatDoor
namespace Go.Proofs.YtjdcdhhbgijaoaaGreatDoor
open Go.ChangeShapes Go.WideShapes Go.ChangeAt Go.RowKit Go.Sort

/-! ### Sums over squares -/
def sumB (f : UInt8 → Int) (l : List UInt8) : Int := (l.map f).sum
theorem sumB_cons (f : UInt8 → Int) (c : UInt8) (l : List UInt8) : sumB f (c :: l) = f c + sumB f l := by simp [sumB]
theorem sumB_set (f : UInt8 → Int) : ∀ (l : List UInt8) (i : Nat) (v : UInt8), i < l.length → sumB f (l.set i v) = sumB f l - f (l.getD i 0) + f v
  | [], i, v, h => absurd h (Nat.not_lt_zero _)
  | c :: l, 0, v, _ => by
    rw [List.set_cons_zero, sumB_cons, sumB_cons, List.getD_cons_zero]
    omega
  | c :: l, i + 1, v, h => by
    have ih := sumB_set f l i v (by simpa using h)
    rw [List.set_cons_succ, sumB_cons, sumB_cons, ih, List.getD_cons_succ]
    omega
theorem sumTo_filter (g : Nat → Int) (P : Nat → Bool) : ∀ k : Nat, sumTo (fun i => if P i then g i else 0) k = (((List.range k).filter P).map g).sum
  | 0 => rfl
  | k + 1 => by
    rw [sumTo_succ, sumTo_filter g P k, List.range_succ, List.filter_append, List.map_append, List.sum_append]
    congr 1
    cases h : P k <;> simp [h]
theorem PGood.idx_cell {b : Brd} {p : Ply} {n : Nat} (h : PGood b p n) {k : Nat} (hk : k < p.word.size) : b.cells.data.toList.getD (p.idx n k) 0 = b.view p p.r (p.c + k) := by
  obtain ⟨i, j, e1, e2, l1, l2, e3, hl⟩ := h.idx_lt hk
  rw [← h.good.sq p k, e1, e2, h.good.cell_in l1 l2 rfl hl, e3, getD_byt hl]
theorem PGood.madeK_sum {b : Brd} {p : Ply} {n : Nat} (h : PGood b p n) (f : UInt8 → Int) : ∀ k, k ≤ p.word.size →
    sumB f (madeK n p b.cells.data.toList k) = sumB f b.cells.data.toList + sumTo (fun i => f (p.word.data.toList.getD i 0) - f (b.view p p.r (p.c + i))) k
  | 0, _ => by simp [madeK, sumTo]
  | k + 1, hk => by
    have ih := h.madeK_sum f k (by omega)
    obtain ⟨i, j, e1, e2, l1, l2, e3, hl⟩ := h.idx_lt (k := k) (by omega)
    rw [madeK, sumB_set f _ _ _ (by rw [madeK_len, e3]; simpa using hl), ih, sumTo_succ]
    have hout := madeK_out (n := n) (p := p) (L := b.cells.data.toList) (x := p.idx n k) k (fun t ht e => by
      have := h.idx_inj t k (by omega) (by omega) e
      omega)
    rw [hout, h.idx_cell (by omega)]
    omega
/-- a sum over all squares after a play: that before it, and that over the letters that are placed -/
theorem PGood.made_sum {b : Brd} {p : Ply} {n : Nat} (h : PGood b p n) {f : UInt8 → Int} (h46 : f 46 = 0) :
    sumB f (b.made p).cells.data.toList = sumB f b.cells.data.toList + sumB f ((b.fresh p).map fun i => p.word.data.toList.getD i 0) := by
  have e : (b.made p).cells.data.toList = madeK n p b.cells.data.toList p.word.size := by
    show (mkB (madeK b.size.toNat p b.cells.data.toList p.word.size)).data.toList = _
    rw [mkB_data, show b.size.toNat = n from by rw [h.good.size]; simp]
  rw [e, h.madeK_sum f _ (Nat.le_refl _)]
  congr 1
  have e2 : sumTo (fun i => f (p.word.data.toList.getD i 0) - f (b.view p p.r (p.c + i))) p.word.size = sumTo (fun i => if (b.view p p.r (p.c + (i : Nat)) == 46) = true then f (p.word.data.toList.getD i 0) else 0) p.word.size := by
    refine sumTo_congr fun i hi => ?_
    have hf := List.all_eq_true.1 h.fit i (List.mem_range.2 hi)
    rw [Bool.or_eq_true] at hf
    by_cases h1 : (b.view p p.r (p.c + i) == 46) = true
    · rw [if_pos h1, beq_iff_eq.1 h1, h46]
      omega
    · rw [if_neg h1]
      have h2 := beq_iff_eq.1 (hf.resolve_left h1)
      rw [h2]
      omega
  rw [e2, sumTo_filter (fun i => f (p.word.data.toList.getD i 0)) (fun i : Nat => b.view p p.r (p.c + i) == 46)]
  unfold sumB Brd.fresh freshL
  rw [List.map_map]
  rfl

/-! ### Scores on the transposed board -/
theorem scTiles_all {b : Brd} {p : Ply} {n : Nat} (h : PGood b p n) : (b.tiles p).all tileB = true := List.all_eq_true.2 h.tiles_ok
end Go.Proofs.YtjdcdhhbgijaoaaGreatDoor
namespace Go.Proofs.YtjdcdhhbgijaoaaGreatDoor
open Go.ChangeShapes Go.WideShapes Go.ChangeAt Go.RowKit Go.Sort

theorem sumB_count (c : UInt8) : ∀ l : List UInt8, sumB (fun x => if x = c then 1 else 0) l = (l.count c : Int)
  | [] => rfl
  | x :: l => by
    rw [sumB_cons, sumB_count c l, List.count_cons]
    by_cases e : x = c
    · subst e
      rw [if_pos rfl, beq_self_eq_true, if_pos rfl]
      omega
    · rw [if_neg e, if_neg (by simpa using e)]
      omega
theorem letters_count {c : UInt8} (hc : c ≠ 46) (l : List UInt8) : (lettersL l).count c = l.count c := by
  unfold lettersL
  exact List.count_filter (by simpa using hc)
/-- the letters on the board after a play: those before it, and those that it places -/
theorem word_mem {s : ByteArray} {i : Nat} (h : i < s.size) : s[i] ∈ s.data.toList := by
  have e : s[i] = s.data.toList[i]'(by simpa using h) := rfl
  rw [e]
  exact List.getElem_mem _
theorem PGood.made_letters {b : Brd} {p : Ply} {n : Nat} (h : PGood b p n) : (lettersL (b.made p).cells.data.toList).Perm (lettersL b.cells.data.toList ++ placedB p.word (b.fresh p)) := by
  rw [List.perm_iff_count]
  intro c
  rw [List.count_append]
  by_cases hc : c = 46
  · subst hc
    have h1 : ∀ l : List UInt8, (lettersL l).count 46 = 0 := fun l => List.count_eq_zero.2 fun hm => by
      have := (List.mem_filter.1 hm).2
      exact absurd this (by decide)
    rw [h1, h1, List.count_eq_zero.2]
    intro hm
    unfold placedB at hm
    obtain ⟨i, hi, he⟩ := List.mem_map.1 hm
    have hl := (freshL_lt hi).1
    rw [u8_byte hl] at he
    have := (List.all_eq_true.1 h.letters) _ (word_mem hl)
    rw [he] at this
    exact absurd this (by decide)
  · have h46 : (fun x : UInt8 => if x = c then (1 : Int) else 0) 46 = 0 := if_neg fun e => hc e.symm
    have := h.made_sum (f := fun x : UInt8 => if x = c then (1 : Int) else 0) h46
    rw [sumB_count, sumB_count, sumB_count] at this
    rw [letters_count hc, letters_count hc]
    have e : placedB p.word (b.fresh p) = (b.fresh p).map fun i => p.word.data.toList.getD i 0 := rfl
    rw [e]
    omega
/-- the pile of what is on a board -/
def Brd.pile (b : Brd) : List UInt8 := srtL ((lettersL b.cells.data.toList).map tlC)
def Brd.many (b : Brd) : Nat := (lettersL b.cells.data.toList).length
theorem Brd.Good.letters_let {b : Brd} {n : Nat} (h : b.Good n) : ∀ c ∈ lettersL b.cells.data.toList, letB c.toNat = true := by
  intro c hc
  obtain ⟨h1, h2⟩ := List.mem_filter.1 hc
  have h3 := List.all_eq_true.1 h.okC c h1
  unfold cellB at h3
  unfold letB
  simp only [Bool.or_eq_true] at h3 ⊢
  rcases h3 with (h3 | h3) | h3
  · exfalso
    have : c = 46 := UInt8.toNat_inj.1 (by have := beq_iff_eq.1 h3; exact_mod_cast this)
    rw [this] at h2
    exact absurd h2 (by decide)
  · exact .inl h3
  · exact .inr h3
theorem Brd.Good.pile_tiles {b : Brd} {n : Nat} (h : b.Good n) : ((lettersL b.cells.data.toList).map tlC).all tileB = true := by
  rw [List.all_eq_true]
  intro c hc
  obtain ⟨d, hd, rfl⟩ := List.mem_map.1 hc
  exact tile_of_let (h.letters_let d hd)
theorem Brd.Good.pile_len {b : Brd} {n : Nat} (h : b.Good n) : b.pile.length = b.many := by
  unfold Brd.pile Brd.many
  rw [srt_len h.pile_tiles, List.length_map]
theorem PGood.made_many {b : Brd} {p : Ply} {n : Nat} (h : PGood b p n) : (b.made p).many = b.many + (b.fresh p).length := by
  unfold Brd.many
  rw [h.made_letters.length_eq, List.length_append]
  unfold placedB
  rw [List.length_map]
theorem cntI_perm {a b : List UInt8} (h : a.Perm b) : srtL a = srtL b := by
  unfold srtL
  congr 1
  funext k
  unfold cntI
  rw [cnt_perm h]
theorem PGood.made_pile {b : Brd} {p : Ply} {n : Nat} (h : PGood b p n) : (b.made p).pile = srtL (b.pile ++ srtL (b.tiles p)) := by
  unfold Brd.pile
  refine cntI_perm ?_
  have h1 := (h.made_letters).map tlC
  rw [List.map_append] at h1
  exact h1.trans (List.Perm.append (srt_perm h.good.pile_tiles).symm (srt_perm (scTiles_all h)).symm)
theorem PGood.tiles_len {b : Brd} {p : Ply} {n : Nat} (h : PGood b p n) : (srtL (b.tiles p)).length = (b.fresh p).length := by
  rw [srt_len (scTiles_all h)]
  unfold Brd.tiles placedB
  rw [List.length_map, List.length_map]
theorem srt_pile {l : List UInt8} (h : l.all tileB = true) (hl : l.length ≤ 120) : pileOk (srtL l) = true := by
  have hs := srt_sort l
  have hp := srt_perm h
  rw [pileOk_iff]
  refine ⟨fun j hj => ?_, fun j hj h0 => ?_, by rw [srt_len h]; exact hl⟩
  · rw [u8_at hj]
    exact List.all_eq_true.1 h _ (hp.mem_iff.1 (List.getElem_mem _))
  · rw [u8_at hj, u8_at (by omega)]
    exact (List.pairwise_iff_getElem.1 hs) (j - 1) j (by omega) hj (by omega)
/-- a play fills a square at least -/
theorem PGood.some_fresh {b : Brd} {p : Ply} {n : Nat} (h : PGood b p n) : 0 < (b.fresh p).length := by
  obtain ⟨i, hi, hf⟩ := List.any_eq_true.1 h.free
  exact List.length_pos_iff_exists_mem.2 ⟨i, List.mem_filter.2 ⟨hi, hf⟩⟩
/-- the same play does not fit again -/
theorem PGood.not_again {b : Brd} {p : Ply} {n : Nat} (h : PGood b p n) : (b.made p).okPlay p = false := by
  cases e : (b.made p).okPlay p with
  | false => rfl
  | true =>
    obtain ⟨m, hm⟩ := okPlay_good e
    obtain ⟨i, hi, hf⟩ := List.any_eq_true.1 hm.free
    have hi := List.mem_range.1 hi
    have hf := beq_iff_eq.1 hf
    rw [h.made_in hi, u8_byte hi] at hf
    have := (List.all_eq_true.1 h.letters) _ (word_mem hi)
    rw [hf] at this
    exact absurd this (by decide)
theorem PGood.fresh_cell {b : Brd} {p : Ply} {n : Nat} (h : PGood b p n) {i : Nat} (hi : i ∈ b.fresh p) : b.cell (p.sr i) (p.sc i) = 46 ∧ (b.made p).cell (p.sr i) (p.sc i) ≠ 46 := by
  obtain ⟨hl, hf⟩ := freshL_lt hi
  refine ⟨by rw [h.good.sq p i]; exact hf, ?_⟩
  rw [h.made_good.sq p i, h.made_in hl, u8_byte hl]
  intro e
  have := (List.all_eq_true.1 h.letters) _ (word_mem hl)
  rw [e] at this
  exact absurd this (by decide)
end Go.Proofs.YtjdcdhhbgijaoaaGreatDoor
