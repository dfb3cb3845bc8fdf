/- Plain: how the two sides read the text of a tile set, word by word; a tile set in a box, i · Plain: a tile set in a box whose rows lie elsewhere; a row grown or written, the source of · Contracts: the texts of the standard tile sets: the reference. -/
import Derived.Test.YtjdcdhhbgijaoaaGreatDoorTbA
import Derived.Test.YtjdcdhhbgijaoaaGreatDoorScE
import Derived.Deep.MidRow
import Derived.Lib.IndexMore
import Derived.Lib.SmallJoins
import Derived.Test.YtjdcdhhbgijaoaaGreatDoorDrA
import Derived.Test.YtjdcdhhbgijaoaaGreatDoorFrame
namespace Go.Proofs.YtjdcdhhbgijaoaaGreatDoor
open Go.ChangeShapes Go.WideShapes Go.ChangeAt Go.RowKit Go.Sort

def stepsO (f : Tls → List UInt8 → Option Tls) : Tls → List (List UInt8) → Option Tls
  | t, [] => some t
  | t, w :: ws => match f t w with
    | none => none
    | some t2 => stepsO f t2 ws
theorem stepsO_states {f : Tls → List UInt8 → Option Tls} : ∀ {P : List (List UInt8)} {t0 t : Tls}, stepsO f t0 P = some t → ∃ T : Nat → Tls, T 0 = t0 ∧ (∀ k, k < P.length → f (T k) (P.getD k []) = some (T (k + 1))) ∧ T P.length = t
  | [], t0, t, h => ⟨fun _ => t0, rfl, fun k hk => absurd hk (Nat.not_lt_zero _), by cases h; rfl⟩
  | w :: ws, t0, t, h => by
    unfold stepsO at h
    cases h1 : f t0 w with
    | none => rw [h1] at h; cases h
    | some t2 =>
      rw [h1] at h
      obtain ⟨T, e0, e1, e2⟩ := stepsO_states h
      refine ⟨fun k => match k with | 0 => t0 | k + 1 => T k, rfl, fun k hk => ?_, e2⟩
      cases k with
      | zero => show f t0 w = some (T 0); rw [e0]; exact h1
      | succ k => exact e1 k (by simpa using hk)
/-- a letter's word is added -/
def Tls.add (t : Tls) (c : List UInt8) (v n : Int) : Tls := { t with letters := t.letters ++ mkB c, values := t.values ++ [v], counts := t.counts ++ [n] }
def Tls.low (t : Tls) (w : List UInt8) : Bool := decide (t.letters.size ≤ 26) && (decide (t.values.length ≤ 26) && (decide (t.counts.length ≤ 26) && decide (w.length ≤ 40)))
theorem Tls.low_parts {t : Tls} {w : List UInt8} (h : t.low w = true) : t.letters.size ≤ 26 ∧ t.values.length ≤ 26 ∧ t.counts.length ≤ 26 ∧ w.length ≤ 40 := by
  simpa only [Tls.low, Bool.and_eq_true, decide_eq_true_eq] using h
/-- the reference's step, where all is well -/
def specStep (t : Tls) (w : List UInt8) : Option Tls := if t.low w = true then match partS w with
  | none => none
  | some (p, q) => match specNum q with
    | none => none
    | some n => if p = [63] then (if 0 < n then some { t with blanks := n } else none) else match specNum (p.drop 1) with
      | none => none
      | some v => if t.blanks = 0 then some (t.add (p.take 1) v n) else none
  else none
def partI (w : List UInt8) : List UInt8 × List UInt8 := ((Lib.cut (w.drop 1) [120]).1, (Lib.cut (w.drop 1) [120]).2.1)
/-- the program's step, where all is well -/
def implStep (t : Tls) (w : List UInt8) : Option Tls := if t.low w = true ∧ w ≠ [] ∧ (partI w).1.length ≤ 40 ∧ (partI w).2.length ≤ 40 then
    (if w.headD 0 = 63 then some { t with blanks := (specNum (partI w).2).getD 0 } else if t.letters.size ≤ 25 then some (t.add (w.take 1) ((specNum (partI w).1).getD 0) ((specNum (partI w).2).getD 0)) else none)
  else none
/-- the words of a tile set's text -/
def tilesW (t : Tls) : List ByteArray := (List.range t.counts.length).map (fun i => mkB (tileW t i)) ++ if 0 < t.blanks then [mkB (63 :: 120 :: Lib.itoa t.blanks)] else []
/-- a text and the tile set that it stands for -/
structure Tls.Text (t : Tls) (s : ByteArray) : Prop where
  len : s.size ≤ 1000
  few : (splitL 32 s.data.toList).length ≤ 27
  spec : stepsO specStep tlsNone (splitL 32 s.data.toList) = some t
  impl : stepsO implStep tlsNone (splitL 32 s.data.toList) = some t
  text : tilesT t = s.data.toList
  join : Lib.join ((tilesW t).map (·.data.toList)) [32] = s.data.toList
  ok : t.ok = true
set_option maxRecDepth 100000 in
theorem text_small : smallT.Text smallX := ⟨by decide, by decide, by kernel_rfl, by kernel_rfl, small_text, by kernel_rfl, small_ok⟩
set_option maxRecDepth 100000 in
theorem text_english : englishT.Text englishX := ⟨by decide, by decide, by kernel_rfl, by kernel_rfl, english_text, by kernel_rfl, english_ok⟩

/-! ### A tile set in a box -/
structure TBox (w : World) (g : Nat) (x : Tls) (q : TlA) : Prop where
  var : VarAt w g 44 (tlCells x q)
  vals : w.ownsRow (g + 1) 2 1 (.slice q.values.a x.values.length q.values.c) x.values.length (x.values.flatMap I64.enc)
  cnts : w.ownsRow (g + 1) 2 1 (.slice q.counts.a x.counts.length q.counts.c) x.counts.length (x.counts.flatMap I64.enc)
  off : offA q.values.a q.counts.a
theorem TBox.kept {w w' : World} {g : Nat} {x : Tls} {q : TlA} (h : TBox w g x q) (hb : Below w.heap.size w w') : TBox w' g x q := ⟨h.var.kept hb, own_below h.vals hb, own_below h.cnts hb, h.off⟩
theorem TBox.lt {w : World} {g : Nat} {x : Tls} {q : TlA} (h : TBox w g x q) : g < w.heap.size := h.var.lt
theorem TBox.own {w : World} {g : Nat} {x : Tls} {q : TlA} (h : TBox w g x q) : x.Own q (g + 1) w := ⟨h.vals, h.cnts⟩
theorem TBox.tat {w : World} {g : Nat} {x : Tls} {q : TlA} (h : TBox w g x q) : TAt w g x q := ⟨⟨h.var.cell rfl, h.var.cell rfl, h.var.cell rfl, h.var.cell rfl⟩, h.own.at⟩
theorem TBox.new (w : World) : TBox (w.alloc (.cells #[.string ⟨#[]⟩, .slice none 0 0, .slice none 0 0, .int .i64 0] 44)) w.heap.size tlsNone ⟨⟨none, 0⟩, ⟨none, 0⟩⟩ :=
  ⟨VarAt.new w _ [.string ⟨#[]⟩, .slice none 0 0, .slice none 0 0, .int .i64 0], World.ownsRow_nil _ _ _ _, World.ownsRow_nil _ _ _ _, offA_none _⟩
theorem ownBlock_map {a : Option Addr} {n c k : Nat} (h : (Value.slice a n c).ownBlock = some k) : a.map (·.block) = some k := by
  cases a with
  | none => cases h
  | some x => exact h
theorem TBox.wrote {w w' : World} {g : Nat} {x : Tls} {q : TlA} {a : Option Addr} {n c : Nat} (h : TBox w g x q) (hg : w.grownBy w' (Value.slice a n c).ownBlock) (hlo : ∀ k, a.map (·.block) = some k → g + 1 ≤ k) :
    Wrote g [a] w w' ∧ VarAt w' g 44 (tlCells x q) := by
  have hW : Wrote g [a] w w' := Wrote.of_grown hg (Nat.le_of_lt h.lt) (fun k hk => by have := hlo k hk; omega)
  refine ⟨hW, h.var.wrote hW (fun s hs => ?_)⟩
  rw [List.mem_singleton.1 hs]
  intro k h1 h2
  obtain rfl : g = k := by simpa using h2
  have := hlo _ h1
  omega
/-- what a word's reading may write -/
def W3 (g : Nat) (q : TlA) : List (Option Addr) := [some ⟨g, 0, none⟩, q.values.a, q.counts.a]
theorem Wrote.sub {lo : Nat} {S S' : List (Option Addr)} {w w' : World} (h : Wrote lo S w w') (hs : ∀ s ∈ S, s ∈ S') : Wrote lo S' w w' := ⟨h.below, fun ho => h.own (fun s hm => ho s (hs s hm))⟩
theorem Wrote.same {lo : Nat} {S : List (Option Addr)} {a b c : World} (h : Wrote lo S a b) (k : Wrote lo S b c) : Wrote lo S a c := (h.trans k).sub (fun _ hs => (List.mem_append.1 hs).elim id id)
theorem w3_box {g : Nat} {q : TlA} : ∀ s ∈ ([some ⟨g, 0, none⟩] : List (Option Addr)), s ∈ W3 g q := fun s hs => by rw [List.mem_singleton.1 hs]; exact List.mem_cons_self
theorem w3_vals {g : Nat} {q : TlA} : ∀ s ∈ ([q.values.a] ++ [some ⟨g, 0, none⟩] : List (Option Addr)), s ∈ W3 g q := fun s hs => by
  unfold W3
  simp only [List.cons_append, List.nil_append, List.mem_cons, List.not_mem_nil, or_false] at hs ⊢
  rcases hs with h | h
  · exact .inr (.inl h)
  · exact .inl h
theorem w3_cnts {g : Nat} {q q2 : TlA} (h : q2.counts = q.counts) : ∀ s ∈ ([q2.counts.a] ++ [some ⟨g, 0, none⟩] : List (Option Addr)), s ∈ W3 g q := fun s hs => by
  rw [h] at hs
  unfold W3
  simp only [List.cons_append, List.nil_append, List.mem_cons, List.not_mem_nil, or_false] at hs ⊢
  rcases hs with h | h
  · exact .inr (.inr h)
  · exact .inl h
theorem own_or {a : Option Addr} {n c g7 N H : Nat} (h : (Value.slice a n c).ownBlock = some g7 ∨ g7 = H) (hH : N ≤ H) : ∀ k, (some (⟨g7, 0, none⟩ : Addr)).map (·.block) = some k → a.map (·.block) = some k ∨ N ≤ k := by
  intro k hk
  obtain rfl : g7 = k := by simpa using hk
  rcases h with h | h
  · exact .inl (ownBlock_map h)
  · exact .inr (h ▸ hH)
/-- rows that were there, or new ones -/
structure TNew (w : World) (q q2 : TlA) : Prop where
  vals : ∀ k, q2.values.a.map (·.block) = some k → q.values.a.map (·.block) = some k ∨ w.heap.size ≤ k
  cnts : ∀ k, q2.counts.a.map (·.block) = some k → q.counts.a.map (·.block) = some k ∨ w.heap.size ≤ k
theorem TNew.refl (w : World) (q : TlA) : TNew w q q := ⟨fun _ h => .inl h, fun _ h => .inl h⟩
theorem TBox.addv {w w2 : World} {g g7 cap7 : Nat} {x : Tls} {q : TlA} {v : Int} (h : TBox w g x q)
    (hown : w2.ownsRow (g + 1) 2 1 (.slice (some ⟨g7, 0, none⟩) (x.values.length + 1) cap7) (x.values.length + 1) (x.values.flatMap I64.enc ++ I64.enc v))
    (hgr : w.grownBy w2 (Value.slice q.values.a x.values.length q.values.c).ownBlock) (hwh : (Value.slice q.values.a x.values.length q.values.c).ownBlock = some g7 ∨ g7 = w.heap.size) :
    TBox (w2.setCell ⟨g, 1, none⟩ (.slice (some ⟨g7, 0, none⟩) (x.values.length + 1) cap7)) g { x with values := x.values ++ [v] } ⟨⟨some ⟨g7, 0, none⟩, cap7⟩, q.counts⟩ ∧ Wrote g ([q.values.a] ++ [some ⟨g, 0, none⟩]) w (w2.setCell ⟨g, 1, none⟩ (.slice (some ⟨g7, 0, none⟩) (x.values.length + 1) cap7)) := by
  obtain ⟨hW, hV⟩ := h.wrote hgr (fun k hk => (own_lt h.vals k hk).1)
  obtain ⟨o1, k1⟩ := hV.set 1 (.slice (some ⟨g7, 0, none⟩) (x.values.length + 1) cap7)
  have hl : (x.values ++ [v]).length = x.values.length + 1 := by simp
  refine ⟨⟨o1.as (by unfold tlCells; simp only [hl]; rfl), ?_, row_store (hW.own (fun s hs => by rw [List.mem_singleton.1 hs]; exact h.off) h.cnts) k1 (Nat.lt_succ_self g), ?_⟩, ?_⟩
  · have h2 := row_store (own_as hown (flat_snoc I64.enc x.values v)) k1 (Nat.lt_succ_self g)
    simp only [hl]
    exact h2
  · intro k h1 h2
    obtain rfl : g7 = k := by simpa using h1
    rcases hwh with e | e
    · exact h.off _ (ownBlock_map e) h2
    · have := own_lt h.cnts _ h2
      omega
  · exact hW.trans (wrote_box k1 (Nat.le_of_lt hV.lt) (Nat.le_refl _))
theorem TBox.addc {w w2 : World} {g g7 cap7 : Nat} {x : Tls} {q : TlA} {v : Int} (h : TBox w g x q)
    (hown : w2.ownsRow (g + 1) 2 1 (.slice (some ⟨g7, 0, none⟩) (x.counts.length + 1) cap7) (x.counts.length + 1) (x.counts.flatMap I64.enc ++ I64.enc v))
    (hgr : w.grownBy w2 (Value.slice q.counts.a x.counts.length q.counts.c).ownBlock) (hwh : (Value.slice q.counts.a x.counts.length q.counts.c).ownBlock = some g7 ∨ g7 = w.heap.size) :
    TBox (w2.setCell ⟨g, 2, none⟩ (.slice (some ⟨g7, 0, none⟩) (x.counts.length + 1) cap7)) g { x with counts := x.counts ++ [v] } ⟨q.values, ⟨some ⟨g7, 0, none⟩, cap7⟩⟩ ∧ Wrote g ([q.counts.a] ++ [some ⟨g, 0, none⟩]) w (w2.setCell ⟨g, 2, none⟩ (.slice (some ⟨g7, 0, none⟩) (x.counts.length + 1) cap7)) := by
  obtain ⟨hW, hV⟩ := h.wrote hgr (fun k hk => (own_lt h.cnts k hk).1)
  obtain ⟨o1, k1⟩ := hV.set 2 (.slice (some ⟨g7, 0, none⟩) (x.counts.length + 1) cap7)
  have hl : (x.counts ++ [v]).length = x.counts.length + 1 := by simp
  refine ⟨⟨o1.as (by unfold tlCells; simp only [hl]; rfl), row_store (hW.own (fun s hs => by rw [List.mem_singleton.1 hs]; exact h.off.symm) h.vals) k1 (Nat.lt_succ_self g), ?_, ?_⟩, ?_⟩
  · have h2 := row_store (own_as hown (flat_snoc I64.enc x.counts v)) k1 (Nat.lt_succ_self g)
    simp only [hl]
    exact h2
  · intro k h1 h2
    obtain rfl : g7 = k := by simpa using h2
    rcases hwh with e | e
    · exact h.off _ h1 (ownBlock_map e)
    · have := own_lt h.vals _ h1
      omega
  · exact hW.trans (wrote_box k1 (Nat.le_of_lt hV.lt) (Nat.le_refl _))
theorem TBox.setB {w : World} {g : Nat} {x : Tls} {q : TlA} (h : TBox w g x q) (n : Int) : TBox (w.setCell ⟨g, 3, none⟩ (.int .i64 n)) g { x with blanks := n } q ∧ Wrote g [some ⟨g, 0, none⟩] w (w.setCell ⟨g, 3, none⟩ (.int .i64 n)) := by
  obtain ⟨o1, k1⟩ := h.var.set 3 (.int .i64 n)
  exact ⟨⟨o1, row_store h.vals k1 (Nat.lt_succ_self g), row_store h.cnts k1 (Nat.lt_succ_self g), h.off⟩, wrote_box k1 (Nat.le_of_lt h.lt) (Nat.le_refl _)⟩
theorem TBox.setL {w : World} {g : Nat} {x : Tls} {q : TlA} (h : TBox w g x q) (s : ByteArray) : TBox (w.setCell ⟨g, 0, none⟩ (.string s)) g { x with letters := s } q ∧ Wrote g [some ⟨g, 0, none⟩] w (w.setCell ⟨g, 0, none⟩ (.string s)) := by
  obtain ⟨o1, k1⟩ := h.var.set 0 (.string s)
  exact ⟨⟨o1, row_store h.vals k1 (Nat.lt_succ_self g), row_store h.cnts k1 (Nat.lt_succ_self g), h.off⟩, wrote_box k1 (Nat.le_of_lt h.lt) (Nat.le_refl _)⟩
end Go.Proofs.YtjdcdhhbgijaoaaGreatDoor
namespace Go.Proofs.YtjdcdhhbgijaoaaGreatDoor
open Go.ChangeShapes Go.WideShapes Go.ChangeAt Go.RowKit Go.Sort

/-- nothing below g is written -/
structure Above (g : Nat) (w w' : World) : Prop where
  src : ∀ {N b k : Nat}, SrcAt w N b k → N ≤ g → SrcAt w' N b k
  grown : ∀ {w0 : World} {b : Nat}, w0.grownBy w (some b) → w0.heap.size ≤ g → w0.grownBy w' (some b)
  var : ∀ {r : Nat} {t : TypeId} {cs : List Value}, VarAt w r t cs → r < g → VarAt w' r t cs
theorem above_of {g : Nat} {w w' : World} {row : Option Nat} (hg : w.grownBy w' row) (hr : ∀ k, row = some k → g ≤ k) : Above g w w' := by
  refine ⟨fun h hN => h.grown hg (fun k e => Nat.le_trans hN (hr k e)), fun h hz => ?_, fun h hl => h.grown hg (fun e => by have := hr _ e.symm; omega)⟩
  cases row with
  | none => exact grown_below h (below_of_grown hg)
  | some k => exact grown_over h hg (Nat.le_trans hz (hr k rfl))
theorem Above.trans {g : Nat} {a b c : World} (h : Above g a b) (k : Above g b c) : Above g a c :=
  ⟨fun x y => k.src (h.src x y) y, fun x y => k.grown (h.grown x y) y, fun x y => k.var (h.var x y) y⟩
/-- a tile set in a box; its rows are at or above block B, the box is none of them -/
structure TBoy (w : World) (B g : Nat) (x : Tls) (q : TlA) : Prop where
  var : VarAt w g 44 (tlCells x q)
  own : x.Own q B w
  off : offA q.values.a q.counts.a
  offv : offA q.values.a (some ⟨g, 0, none⟩)
  offc : offA q.counts.a (some ⟨g, 0, none⟩)
  lo : B ≤ g
theorem TBoy.lt {w : World} {B g : Nat} {x : Tls} {q : TlA} (h : TBoy w B g x q) : g < w.heap.size := h.var.lt
theorem TBoy.kept {w w' : World} {B g : Nat} {x : Tls} {q : TlA} (h : TBoy w B g x q) (hb : Below w.heap.size w w') : TBoy w' B g x q := ⟨h.var.kept hb, h.own.kept hb, h.off, h.offv, h.offc, h.lo⟩
theorem TBoy.grown {w w' : World} {B g b : Nat} {x : Tls} {q : TlA} (h : TBoy w B g x q) (hg : w.grownBy w' (some b)) (hb : b < B) : TBoy w' B g x q := by
  have := h.lo
  exact ⟨h.var.grown hg (fun e => by cases e; omega), h.own.store hg hb, h.off, h.offv, h.offc, h.lo⟩
theorem TBoy.cell {w : World} {B g : Nat} {x : Tls} {q : TlA} (h : TBoy w B g x q) {i : Nat} {v : Value} (hv : (tlCells x q)[i]? = some v) : w.cell? ⟨g, i, none⟩ = some v := h.var.cell hv
theorem TBoy.free {w : World} {B g : Nat} {x : Tls} {q : TlA} (h : TBoy w B g x q) (i : Nat) : w.frozen? ⟨g, i, none⟩ = false := h.var.free i
theorem TBoy.put {w w' : World} {B g : Nat} {x y : Tls} {q q' : TlA} (h : TBoy w B g x q) (hg : w.grownBy w' (some g)) (hv : VarAt w' g 44 (tlCells y q')) (e1 : y.values = x.values) (e2 : y.counts = x.counts) (e3 : q' = q) : TBoy w' B g y q' ∧ Above B w w' := by
  subst e3
  have hlo := h.lo
  have hW := wrote_box hg (show B ≤ w.heap.size by have := h.lt; omega) hlo
  refine ⟨⟨hv, ⟨?_, ?_⟩, h.off, h.offv, h.offc, hlo⟩, above_of hg (fun k e => by cases e; exact hlo)⟩
  · rw [e1]
    exact hW.own (fun s hs => by rw [List.mem_singleton.1 hs]; exact h.offv.symm) h.own.1
  · rw [e2]
    exact hW.own (fun s hs => by rw [List.mem_singleton.1 hs]; exact h.offc.symm) h.own.2
theorem TBoy.setL {w : World} {B g : Nat} {x : Tls} {q : TlA} (h : TBoy w B g x q) (s : ByteArray) : TBoy (w.setCell ⟨g, 0, none⟩ (.string s)) B g { x with letters := s } q ∧ Above B w (w.setCell ⟨g, 0, none⟩ (.string s)) := by
  obtain ⟨o1, k1⟩ := h.var.set 0 (.string s)
  exact h.put k1 o1 rfl rfl rfl
theorem TBoy.setB {w : World} {B g : Nat} {x : Tls} {q : TlA} (h : TBoy w B g x q) (n : Int) : TBoy (w.setCell ⟨g, 3, none⟩ (.int .i64 n)) B g { x with blanks := n } q ∧ Above B w (w.setCell ⟨g, 3, none⟩ (.int .i64 n)) := by
  obtain ⟨o1, k1⟩ := h.var.set 3 (.int .i64 n)
  exact h.put k1 o1 rfl rfl rfl
theorem TBoy.addv {w w2 : World} {B g g7 cap7 : Nat} {x : Tls} {q : TlA} {v : Int} (h : TBoy w B g x q)
    (hown : w2.ownsRow B 2 1 (.slice (some ⟨g7, 0, none⟩) (x.values.length + 1) cap7) (x.values.length + 1) (x.values.flatMap I64.enc ++ I64.enc v))
    (hgr : w.grownBy w2 (Value.slice q.values.a x.values.length q.values.c).ownBlock) (hwh : (Value.slice q.values.a x.values.length q.values.c).ownBlock = some g7 ∨ g7 = w.heap.size) :
    TBoy (w2.setCell ⟨g, 1, none⟩ (.slice (some ⟨g7, 0, none⟩) (x.values.length + 1) cap7)) B g { x with values := x.values ++ [v] } ⟨⟨some ⟨g7, 0, none⟩, cap7⟩, q.counts⟩ ∧ Above B w (w2.setCell ⟨g, 1, none⟩ (.slice (some ⟨g7, 0, none⟩) (x.values.length + 1) cap7)) ∧ w2.cell? ⟨g, 1, none⟩ = some (.slice q.values.a x.values.length q.values.c) ∧ w2.frozen? ⟨g, 1, none⟩ = false := by
  have hlt := h.lt
  have hlo := h.lo
  have hW : Wrote B [q.values.a] w w2 := Wrote.of_grown hgr (by omega) (fun k hk => (own_lt h.own.1 k hk).1)
  have hV := h.var.wrote hW (fun s hs => by rw [List.mem_singleton.1 hs]; exact h.offv)
  obtain ⟨o1, k1⟩ := hV.set 1 (.slice (some ⟨g7, 0, none⟩) (x.values.length + 1) cap7)
  have hW2 := wrote_box k1 (show B ≤ w2.heap.size by have := hV.lt; omega) hlo
  have hl : (x.values ++ [v]).length = x.values.length + 1 := by simp
  have h7g : offA (some ⟨g7, 0, none⟩) (some ⟨g, 0, none⟩) := by
    intro k e1 e2
    obtain rfl : g7 = k := by simpa using e1
    rcases hwh with e | e
    · exact h.offv _ (ownBlock_map e) e2
    · obtain rfl : g = g7 := by simpa using e2
      omega
  have h7c : offA (some ⟨g7, 0, none⟩) q.counts.a := by
    intro k e1 e2
    obtain rfl : g7 = k := by simpa using e1
    rcases hwh with e | e
    · exact h.off _ (ownBlock_map e) e2
    · have := (own_lt h.own.2 _ e2).2
      omega
  refine ⟨⟨o1.as (by unfold tlCells; simp only [hl]; rfl), ⟨?_, ?_⟩, h7c, h7g, h.offc, hlo⟩, (above_of hgr (fun k e => (own_lt h.own.1 k (ownBlock_map e)).1)).trans (above_of k1 (fun k e => by cases e; exact hlo)), hV.cell rfl, hV.free 1⟩
  · have h2 := hW2.own (fun s hs => by rw [List.mem_singleton.1 hs]; exact h7g.symm) (own_as hown (flat_snoc I64.enc x.values v))
    simp only [hl]
    exact h2
  · exact hW2.own (fun s hs => by rw [List.mem_singleton.1 hs]; exact h.offc.symm) (hW.own (fun s hs => by rw [List.mem_singleton.1 hs]; exact h.off) h.own.2)
theorem TBoy.addc {w w2 : World} {B g g7 cap7 : Nat} {x : Tls} {q : TlA} {v : Int} (h : TBoy w B g x q)
    (hown : w2.ownsRow B 2 1 (.slice (some ⟨g7, 0, none⟩) (x.counts.length + 1) cap7) (x.counts.length + 1) (x.counts.flatMap I64.enc ++ I64.enc v))
    (hgr : w.grownBy w2 (Value.slice q.counts.a x.counts.length q.counts.c).ownBlock) (hwh : (Value.slice q.counts.a x.counts.length q.counts.c).ownBlock = some g7 ∨ g7 = w.heap.size) :
    TBoy (w2.setCell ⟨g, 2, none⟩ (.slice (some ⟨g7, 0, none⟩) (x.counts.length + 1) cap7)) B g { x with counts := x.counts ++ [v] } ⟨q.values, ⟨some ⟨g7, 0, none⟩, cap7⟩⟩ ∧ Above B w (w2.setCell ⟨g, 2, none⟩ (.slice (some ⟨g7, 0, none⟩) (x.counts.length + 1) cap7)) ∧ w2.cell? ⟨g, 2, none⟩ = some (.slice q.counts.a x.counts.length q.counts.c) ∧ w2.frozen? ⟨g, 2, none⟩ = false := by
  have hlt := h.lt
  have hlo := h.lo
  have hW : Wrote B [q.counts.a] w w2 := Wrote.of_grown hgr (by omega) (fun k hk => (own_lt h.own.2 k hk).1)
  have hV := h.var.wrote hW (fun s hs => by rw [List.mem_singleton.1 hs]; exact h.offc)
  obtain ⟨o1, k1⟩ := hV.set 2 (.slice (some ⟨g7, 0, none⟩) (x.counts.length + 1) cap7)
  have hW2 := wrote_box k1 (show B ≤ w2.heap.size by have := hV.lt; omega) hlo
  have hl : (x.counts ++ [v]).length = x.counts.length + 1 := by simp
  have h7g : offA (some ⟨g7, 0, none⟩) (some ⟨g, 0, none⟩) := by
    intro k e1 e2
    obtain rfl : g7 = k := by simpa using e1
    rcases hwh with e | e
    · exact h.offc _ (ownBlock_map e) e2
    · obtain rfl : g = g7 := by simpa using e2
      omega
  have h7v : offA q.values.a (some ⟨g7, 0, none⟩) := by
    intro k e2 e1
    obtain rfl : g7 = k := by simpa using e1
    rcases hwh with e | e
    · exact h.off _ e2 (ownBlock_map e)
    · have := (own_lt h.own.1 _ e2).2
      omega
  refine ⟨⟨o1.as (by unfold tlCells; simp only [hl]; rfl), ⟨?_, ?_⟩, h7v, h.offv, h7g, hlo⟩, (above_of hgr (fun k e => (own_lt h.own.2 k (ownBlock_map e)).1)).trans (above_of k1 (fun k e => by cases e; exact hlo)), hV.cell rfl, hV.free 2⟩
  · exact hW2.own (fun s hs => by rw [List.mem_singleton.1 hs]; exact h.offv.symm) (hW.own (fun s hs => by rw [List.mem_singleton.1 hs]; exact h.off.symm) h.own.1)
  · have h2 := hW2.own (fun s hs => by rw [List.mem_singleton.1 hs]; exact h7g.symm) (own_as hown (flat_snoc I64.enc x.counts v))
    simp only [hl]
    exact h2
theorem own_block {w : World} {base c : Nat} {a : Option Addr} {ms : List Int} (ho : w.ownsRow base 2 1 (.slice a ms.length c) ms.length (ms.flatMap I64.enc)) (hne : 0 < ms.length) : ∃ gb, a = some ⟨gb, 0, none⟩ ∧ base ≤ gb ∧ gb < w.heap.size := by
  obtain ⟨gb, h1, h2, h3, _⟩ := IZ.block (.inr ho) hne
  exact ⟨gb, h1, h2, h3⟩
theorem TBoy.putv {w : World} {B g gb : Nat} {x : Tls} {q : TlA} (h : TBoy w B g x q) (ha : q.values.a = some ⟨gb, 0, none⟩) (k : Nat) (v : Int) (hne : 0 < x.values.length) : TBoy (w.setCell ⟨gb, k, none⟩ (.int .i64 v)) B g { x with values := x.values.set k v } q ∧ Above B w (w.setCell ⟨gb, k, none⟩ (.int .i64 v)) := by
  have hlo := h.lo
  have hlt := h.lt
  have ho := h.own.1
  rw [ha] at ho
  obtain ⟨h1, h2, h3⟩ := IZ.setAt ho k v (by omega)
  have hgb := (own_lt ho gb rfl).1
  have hov := h.offv
  rw [ha] at hov
  have hof := h.off
  rw [ha] at hof
  have h4 := h1.resolve_left (by intro e; have := congrArg List.length e; rw [List.length_set, List.length_nil] at this; omega)
  refine ⟨⟨(h.var.wrote h2 (fun s hs => by rw [List.mem_singleton.1 hs]; exact hov)).as (by unfold tlCells; simp only [List.length_set]), ⟨?_, ?_⟩, h.off, h.offv, h.offc, hlo⟩, above_of h3 (fun k e => by cases e; exact hgb)⟩
  · show World.ownsRow _ _ _ _ (.slice q.values.a _ _) _ _
    rw [ha]
    exact h4
  · exact h2.own (fun s hs => by rw [List.mem_singleton.1 hs]; exact hof) h.own.2
theorem TBoy.putc {w : World} {B g gb : Nat} {x : Tls} {q : TlA} (h : TBoy w B g x q) (ha : q.counts.a = some ⟨gb, 0, none⟩) (k : Nat) (v : Int) (hne : 0 < x.counts.length) : TBoy (w.setCell ⟨gb, k, none⟩ (.int .i64 v)) B g { x with counts := x.counts.set k v } q ∧ Above B w (w.setCell ⟨gb, k, none⟩ (.int .i64 v)) := by
  have hlo := h.lo
  have hlt := h.lt
  have ho := h.own.2
  rw [ha] at ho
  obtain ⟨h1, h2, h3⟩ := IZ.setAt ho k v (by omega)
  have hgb := (own_lt ho gb rfl).1
  have hov := h.offc
  rw [ha] at hov
  have hof := h.off
  rw [ha] at hof
  have h4 := h1.resolve_left (by intro e; have := congrArg List.length e; rw [List.length_set, List.length_nil] at this; omega)
  refine ⟨⟨(h.var.wrote h2 (fun s hs => by rw [List.mem_singleton.1 hs]; exact hov)).as (by unfold tlCells; simp only [List.length_set]), ⟨?_, ?_⟩, h.off, h.offv, h.offc, hlo⟩, above_of h3 (fun k e => by cases e; exact hgb)⟩
  · exact h2.own (fun s hs => by rw [List.mem_singleton.1 hs]; exact hof.symm) h.own.1
  · show World.ownsRow _ _ _ _ (.slice q.counts.a _ _) _ _
    rw [ha]
    exact h4
theorem TBoy.new (w : World) {w0 : World} {B : Nat} {x : Tls} {q : TlA} (h : x.Own q w0.heap.size w) (ho : offA q.values.a q.counts.a) (hB : B ≤ w.heap.size) (h0 : B ≤ w0.heap.size) : TBoy (w.alloc (.cells #[.string x.letters, .slice q.values.a x.values.length q.values.c, .slice q.counts.a x.counts.length q.counts.c, .int .i64 x.blanks] 44)) B w.heap.size x q := by
  refine ⟨VarAt.new w _ (tlCells x q), Tls.Own.mono (Tls.Own.kept h ((Below.refl _ _).alloc (Nat.le_refl _) _)) h0, ho, fun k e1 e2 => ?_, fun k e1 e2 => ?_, hB⟩
  · obtain rfl : w.heap.size = k := by simpa using e2
    have := (own_lt h.1 _ e1).2
    omega
  · obtain rfl : w.heap.size = k := by simpa using e2
    have := (own_lt h.2 _ e1).2
    omega
theorem TBoy.zero (w : World) {B : Nat} (z : Int) (hB : B ≤ w.heap.size) : TBoy (w.alloc (.cells #[.string ⟨#[]⟩, .slice none 0 0, .slice none 0 0, .int .i64 z] 44)) B w.heap.size ⟨⟨#[]⟩, [], [], z⟩ ⟨⟨none, 0⟩, ⟨none, 0⟩⟩ :=
  ⟨VarAt.new w _ [.string ⟨#[]⟩, .slice none 0 0, .slice none 0 0, .int .i64 z], ⟨World.ownsRow_nil _ _ _ _, World.ownsRow_nil _ _ _ _⟩, offA_none _, offA_none _, offA_none _, hB⟩
/-- a tile set is drawn; the source goes on -/
def TlDrawn (lo M : Nat) (w : World) (N b k : Nat) (e : Ending) (w' : World) : Prop :=
  ∃ (x : Tls) (q : TlA), e = .returned (.agg #[.string x.letters, .slice q.values.a x.values.length q.values.c, .slice q.counts.a x.counts.length q.counts.c, .int .i64 x.blanks]) ∧ x.letters.size ≤ M ∧ x.values.length ≤ M ∧ x.counts.length ≤ M ∧ lo ≤ x.values.length ∧ lo ≤ x.counts.length ∧ x.Own q w.heap.size w' ∧ offA q.values.a q.counts.a ∧ SrcAt w' N b k ∧ w.grownBy w' (some b)
end Go.Proofs.YtjdcdhhbgijaoaaGreatDoor
namespace Go.Proofs.YtjdcdhhbgijaoaaGreatDoor
open Go.ChangeShapes Go.WideShapes Go.ChangeAt Go.RowKit Go.Sort

def smallN : ByteArray := ⟨#[115, 109, 97, 108, 108]⟩
def englishN : ByteArray := ⟨#[101, 110, 103, 108, 105, 115, 104]⟩
def standX (s : ByteArray) : ByteArray := if s.data.toList = englishN.data.toList then englishX else if s.data.toList = smallN.data.toList then smallX else ⟨#[]⟩
set_option maxRecDepth 100000 in
theorem l02Standard_any (s : ByteArray) (w : World) : Calls Tryz.prog 250 #[.string s] w fun e w' => e = .returned (.string (standX s)) ∧ w = w' := by
  by_cases h1 : s.data.toList = englishN.data.toList
  · have HS : Hid (standX s = englishX) := Lib.hid (if_pos h1)
    have q1 : s.toList = [101, 110, 103, 108, 105, 115, 104] := by rw [ByteArray.toList_eq]; exact h1
    clear h1
    rw [HS.out]
    go_enter Tryz.func250, Tryz.ntmps250
    go_wp2
    go_ret
    exact ⟨rfl, rfl⟩
  · have q1 : (s.toList == [101, 110, 103, 108, 105, 115, 104]) = false := by rw [ByteArray.toList_eq]; exact beq_eq_false_iff_ne.2 h1
    by_cases h2 : s.data.toList = smallN.data.toList
    · have HS : Hid (standX s = smallX) := Lib.hid ((if_neg h1).trans (if_pos h2))
      have q2 : s.toList = [115, 109, 97, 108, 108] := by rw [ByteArray.toList_eq]; exact h2
      clear h1 h2
      rw [HS.out]
      go_enter Tryz.func250, Tryz.ntmps250
      go_wp2
      go_ret
      exact ⟨rfl, rfl⟩
    · have HS : Hid (standX s = ⟨#[]⟩) := Lib.hid ((if_neg h1).trans (if_neg h2))
      have q2 : (s.toList == [115, 109, 97, 108, 108]) = false := by rw [ByteArray.toList_eq]; exact beq_eq_false_iff_ne.2 h2
      clear h1 h2
      rw [HS.out]
      go_enter Tryz.func250, Tryz.ntmps250
      go_wp2
      go_ret
      exact ⟨rfl, rfl⟩
end Go.Proofs.YtjdcdhhbgijaoaaGreatDoor
