/- Plain definitions and lemmas on memory that the seat's walks share: slices that lie in memory, worlds that keep old memory. No condition. · More on rows: a slice's cells as a row; one cell of a row set. No program. · Contracts of the small functions on bytes, numbers and names (IsName, within, ..), of the program and of the reference. No condition. · Contract of the statements' own markText (m and the decimal digits of a number). · Plain definitions: where a row lies; a row of the call's own bears a store into elder memory. No condition. -/
import Derived.WalkKit
import Derived.ProofKit
import Derived.WalkLawsBesides
import Derived.Outline
import Derived.Lib.Hide
import Derived.BigQuiet
import Derived.Deep.QuietTactic
import Derived.Lib.QuietBelow
import Derived.Handy
import Derived.Test.YtlbnjdgfggiifaaGreatDoorProg
namespace Go.Proofs.YtlbnjdgfggiifaaGreatDoor
open Go.ChangeShapes Go.WideShapes Go.ChangeAt Go.RowKit

/-- The world after some draws. -/
def Drew (w w' : World) : Prop := ∃ n, w' = w.drewN n
theorem Drew.refl (w : World) : Drew w w := ⟨0, rfl⟩
theorem Drew.trans {a b c : World} (h : Drew a b) (k : Drew b c) : Drew a c := by
  obtain ⟨n, rfl⟩ := h
  obtain ⟨m, rfl⟩ := k
  exact ⟨n + m, by rw [World.drewN_drewN]⟩
theorem Drew.drewN {a b : World} (h : Drew a b) (n : Nat) : Drew a (b.drewN n) := h.trans ⟨n, rfl⟩
theorem Drew.drew {a b : World} (h : Drew a b) : Drew a b.drew := h.trans ⟨1, rfl⟩
theorem drewN_heap (w : World) (n : Nat) : (w.drewN n).heap = w.heap := by
  cases n <;> rfl
theorem Drew.heap {a b : World} (h : Drew a b) : b.heap = a.heap := by
  obtain ⟨n, rfl⟩ := h
  exact drewN_heap a n
theorem Drew.cell {a b : World} (h : Drew a b) (p : Addr) : b.cell? p = a.cell? p := by simp [World.cell?, h.heap]
theorem Drew.frozen {a b : World} (h : Drew a b) (p : Addr) : b.frozen? p = a.frozen? p := by simp [World.frozen?, h.heap]
theorem Drew.below {a b : World} (h : Drew a b) (B : Nat) : Below B a b := by
  obtain ⟨n, rfl⟩ := h
  induction n with
  | zero => exact Below.refl _ _
  | succ n ih => exact ⟨rfl, rfl, rfl, Nat.le_refl _, fun _ _ => rfl⟩
/-- A callee's contract that ends in 'Drew', met in a quiet region. -/
theorem quiet_of_drew {P : Program} {f : FuncId} {args : Array Value} {w : World} {n : Nat} {v : Value}
    (h : Calls P f args (w.drewN n) fun e w' => e = .returned v ∧ Drew (w.drewN n) w') : Calls P f args (w.drewN n) fun e w'' => e = .returned v ∧ ∃ m, w'' = w.drewN m :=
  Calls.quiet_of h
/-- .. and one that leaves the world alone. -/
theorem quiet_of_eq {P : Program} {f : FuncId} {args : Array Value} {w : World} {n : Nat} {v : Value}
    (h : Calls P f args (w.drewN n) fun e w' => e = .returned v ∧ w.drewN n = w') : Calls P f args (w.drewN n) fun e w'' => e = .returned v ∧ ∃ m, w'' = w.drewN m :=
  h.mono fun _ _ ⟨he, hm⟩ => ⟨he, n, hm.symm⟩

theorem ret_bool {a b : Bool} (h : a = b) : Ending.returned (.bool a) = .returned (.bool b) := by rw [h]
theorem ret_int {k : IntKind} {a b : Int} (h : a = b) : Ending.returned (.int k a) = .returned (.int k b) := by rw [h]

theorem ba_empty {s : ByteArray} (h : s.size < 1) : s.toList.isEmpty = true := by
  have e : s.data.toList.length = s.size := by simp
  rw [ByteArray.toList_eq, List.isEmpty_iff_length_eq_zero]
  omega
theorem ba_full {s : ByteArray} (h : ¬ s.size < 1) : s.toList.isEmpty = false := by
  have e : s.data.toList.length = s.size := by simp
  rw [← Bool.not_eq_true, ByteArray.toList_eq, List.isEmpty_iff_length_eq_zero]
  omega
theorem ba_nil {s : ByteArray} (h : s.size < 1) : s.toList = [] := List.isEmpty_iff.1 (ba_empty h)
theorem ba_notnil {s : ByteArray} (h : ¬ s.size < 1) : ¬ s.toList = [] := fun e => by
  have := ba_full h
  simp [e] at this

/-- A slice's elements (of sz cells each) lie in memory. -/
def SliceAt {α : Type} (w : World) (sz : Nat) (enc : α → List Value) (a : Option Addr) (xs : List α) : Prop :=
  xs = [] ∨ ∃ b off, a = some ⟨b, off, none⟩ ∧ ∀ i (h : i < xs.length) j v, (enc xs[i])[j]? = some v → w.cell? ⟨b, off + i * sz + j, none⟩ = some v

theorem SliceAt.nil {α : Type} (w : World) (sz : Nat) (enc : α → List Value) (a : Option Addr) : SliceAt w sz enc a ([] : List α) := .inl rfl
/-- The cells of the elements, at an address that is known. -/
def CellsAt {α : Type} (w : World) (sz : Nat) (enc : α → List Value) (b off : Nat) (xs : List α) : Prop :=
  ∀ i (h : i < xs.length) j v, (enc xs[i])[j]? = some v → w.cell? ⟨b, off + i * sz + j, none⟩ = some v
theorem SliceAt.open {α : Type} {w : World} {sz : Nat} {enc : α → List Value} {a : Option Addr} {xs : List α} (h : SliceAt w sz enc a xs) {k : Nat} (hk : k < xs.length) :
    ∃ b off, a = some ⟨b, off, none⟩ ∧ CellsAt w sz enc b off xs := by
  rcases h with rfl | ⟨b, off, ha, hc⟩
  · simp at hk
  · exact ⟨b, off, ha, hc⟩
theorem CellsAt.at0 {α : Type} {w : World} {sz : Nat} {enc : α → List Value} {b off : Nat} {xs : List α} (h : CellsAt w sz enc b off xs) {k : Nat} (hk : k < xs.length) {v : Value} (hv : (enc xs[k])[0]? = some v) :
    w.cell? ⟨b, off + k * sz, none⟩ = some v := h k hk 0 v hv
theorem CellsAt.slice {α : Type} {w : World} {sz : Nat} {enc : α → List Value} {b off : Nat} {xs : List α} (h : CellsAt w sz enc b off xs) : SliceAt w sz enc (some ⟨b, off, none⟩) xs :=
  .inr ⟨b, off, rfl, h⟩

theorem CellsAt.below {α : Type} {w w' : World} {sz : Nat} {enc : α → List Value} {b off : Nat} {xs : List α} (h : CellsAt w sz enc b off xs) {B : Nat} (hb : Below B w w') (hB : b < B) : CellsAt w' sz enc b off xs :=
  fun i hi j v hv => (hb.cell (p := ⟨b, off + i * sz + j, none⟩) hB).trans (h i hi j v hv)
theorem cell_alloc {w : World} {p : Addr} {v : Value} (h : w.cell? p = some v) (o : Obj) : (w.alloc o).cell? p = some v :=
  (((Below.refl w.heap.size w).alloc (Nat.le_refl _) o).cell (World.block_lt_of_cell? w p h)).trans h
theorem cell_new0 (w : World) (cs : Array Value) (t : TypeId) {i : Nat} {v : Value} (h : cs[i]? = some v) : (w.alloc (.cells cs t)).cell? ⟨w.heap.size, i, none⟩ = some v := by
  rw [World.cell?_alloc_mark]
  exact h
theorem cell_kept {w w' : World} {p : Addr} {v : Value} (h : w.cell? p = some v) (hb : Below w.heap.size w w') : w'.cell? p = some v :=
  (hb.cell (World.block_lt_of_cell? w p h)).trans h
theorem block_lt {w : World} {b o : Nat} {v : Value} (h : w.cell? ⟨b, o, none⟩ = some v) : b < w.heap.size := World.block_lt_of_cell? w ⟨b, o, none⟩ h
theorem SliceAt.kept {α : Type} {w w' : World} {sz : Nat} {enc : α → List Value} {a : Option Addr} {xs : List α} (h : SliceAt w sz enc a xs) (hb : Below w.heap.size w w') : SliceAt w' sz enc a xs := by
  rcases h with h | ⟨b, off, ha, hc⟩
  · exact .inl h
  · exact .inr ⟨b, off, ha, fun i hi j v hv => (hb.cell (p := ⟨b, off + i * sz + j, none⟩) (block_lt (hc i hi j v hv))).trans (hc i hi j v hv)⟩
theorem SliceAt.drew {α : Type} {w w' : World} {sz : Nat} {enc : α → List Value} {a : Option Addr} {xs : List α} (h : SliceAt w sz enc a xs) (hb : Drew w w') : SliceAt w' sz enc a xs :=
  h.kept (hb.below _)

/-! ### Rows of elements -/
theorem flatMap_len {α : Type} {enc : α → List Value} {sz : Nat} (he : ∀ x, (enc x).length = sz) (xs : List α) : (xs.flatMap enc).length = xs.length * sz := by
  induction xs with
  | nil => simp
  | cons x xs ih => rw [List.flatMap_cons, List.length_append, he, ih, List.length_cons, Nat.add_mul]; omega
theorem flatMap_get {α : Type} {enc : α → List Value} {sz : Nat} (he : ∀ x, (enc x).length = sz) (xs : List α) {i : Nat} (hi : i < xs.length) {j : Nat} (hj : j < sz) :
    (xs.flatMap enc)[i * sz + j]? = (enc xs[i])[j]? := by
  induction xs generalizing i with
  | nil => simp at hi
  | cons x xs ih =>
    rw [List.flatMap_cons]
    cases i with
    | zero => rw [List.getElem?_append_left (by rw [he]; omega)]; simp
    | succ i =>
      rw [List.getElem?_append_right (by rw [he, Nat.succ_mul]; omega), he]
      have e : (i + 1) * sz + j - sz = i * sz + j := by rw [Nat.succ_mul]; omega
      rw [e, ih (by simpa using hi)]
      rfl
theorem own_slice {α : Type} {enc : α → List Value} {sz : Nat} (he : ∀ x, (enc x).length = sz) {w : World} {base : Nat} {e : TypeId} {a : Option Addr} {cap n : Nat} {xs : List α}
    (h : w.ownsRow base e sz (.slice a n cap) n (xs.flatMap enc)) (hn : n = xs.length) : SliceAt w sz enc a xs := by
  obtain ⟨hl, h2⟩ := h
  rcases h2 with ⟨_, h0⟩ | ⟨g, cap', cur, hv, hb, hg, hc, hm, hs, ht⟩
  · left
    cases xs with
    | nil => rfl
    | cons x xs => simp at hn; omega
  · right
    simp only [Value.slice.injEq] at hv
    obtain ⟨rfl, _, _⟩ := hv
    refine ⟨g, 0, rfl, fun i hi j v hv => ?_⟩
    have hj : j < sz := by
      have := (List.getElem?_eq_some_iff.1 hv).1
      rwa [he] at this
    have h1 := flatMap_get he xs hi hj
    rw [hv, ← ht, List.getElem?_take] at h1
    split at h1
    · rw [show (⟨g, 0 + i * sz + j, none⟩ : Addr) = ⟨g, i * sz + j, none⟩ from by simp, cell_of_row w g (i * sz + j) cur e (0, 0) hg]
      simpa using h1
    · cases h1

/-- cells laid over a row, one behind the other -/
def setR : List Value → Nat → List Value → List Value
  | L, _, [] => L
  | L, p, v :: vs => setR (L.set p v) (p + 1) vs
theorem setR_append (vs : List Value) : ∀ (A B : List Value) (p : Nat), A.length = p → vs.length ≤ B.length → setR (A ++ B) p vs = A ++ (vs ++ B.drop vs.length) := by
  induction vs with
  | nil => intro A B p _ _; simp [setR]
  | cons v vs ih =>
    intro A B p hA hB
    cases B with
    | nil => simp at hB
    | cons b B =>
      have e : (A ++ b :: B).set p v = (A ++ [v]) ++ B := by
        rw [List.set_append_right _ _ (by omega), hA, Nat.sub_self]
        simp
      rw [setR, e, ih (A ++ [v]) B (p + 1) (by simp [hA]) (by simpa using hB)]
      simp
/-- One element more is laid into a row that was made. -/
theorem row_step {α : Type} {enc : α → List Value} {sz : Nat} (he : ∀ x, (enc x).length = sz) (xs : List α) (Z : List Value) (hZ : Z.length = xs.length * sz) {k : Nat} (hk : k < xs.length) :
    setR ((xs.take k).flatMap enc ++ Z.drop (k * sz)) (k * sz) (enc xs[k]) = (xs.take (k + 1)).flatMap enc ++ Z.drop ((k + 1) * sz) := by
  have h1 : ((xs.take k).flatMap enc).length = k * sz := by rw [flatMap_len he, List.length_take]; congr 1; omega
  have h2 : sz ≤ (Z.drop (k * sz)).length := by
    rw [List.length_drop, hZ, ← Nat.sub_mul]
    exact Nat.le_mul_of_pos_left sz (by omega)
  rw [setR_append _ _ _ _ h1 (by rw [he]; exact h2), List.take_succ_eq_append_getElem hk, List.flatMap_append, he, List.drop_drop]
  simp [Nat.succ_mul]
theorem row_end {α : Type} {enc : α → List Value} {sz : Nat} (xs : List α) (Z : List Value) (hZ : Z.length = xs.length * sz) {k : Nat} (hk : ¬ k < xs.length) :
    (xs.take k).flatMap enc ++ Z.drop (k * sz) = xs.flatMap enc := by
  rw [List.take_of_length_le (by omega), List.drop_eq_nil_of_le (by rw [hZ]; exact Nat.mul_le_mul_right _ (by omega)), List.append_nil]

theorem grown_of_below {w w' : World} {row : Option Nat} (hb : Below w.heap.size w w') : w.grownBy w' row := ⟨hb.os, hb.tape, hb.output, hb.size, fun k hk _ => hb.block k hk⟩
theorem own_below {w w' : World} {base : Nat} {e : TypeId} {sz : Nat} {v : Value} {n : Nat} {xs : List Value} (h : w.ownsRow base e sz v n xs) (hb : Below w.heap.size w w') : w'.ownsRow base e sz v n xs := by
  refine h.kept (row := none) (grown_of_below hb) ?_
  cases hv : v.ownBlock <;> simp
theorem own_has {w : World} {base : Nat} {e : TypeId} {sz g n cap : Nat} {xs : List Value} (h : w.ownsRow base e sz (.slice (some ⟨g, 0, none⟩) n cap) n xs) {j : Nat} (hj : j < n * sz) : ∃ v, w.cell? ⟨g, j, none⟩ = some v := by
  rw [h.cellAt j hj]
  exact ⟨_, List.getElem?_eq_getElem (by rw [h.1]; exact hj)⟩
theorem below_grown {B : Nat} {a w w' : World} {g : Nat} (h : Below B a w) (hB : B ≤ w.heap.size) (hg : w.grownBy w' (some g)) (hr : B ≤ g) : Below B a w' :=
  h.grown hg hB (fun k hk => by cases hk; exact hr)
/-- a row that is read by one who does not write it stays -/
theorem own_mono {w : World} {base base' : Nat} {e : TypeId} {sz : Nat} {v : Value} {n : Nat} {xs : List Value} (h : w.ownsRow base e sz v n xs) (hb : base' ≤ base) : w.ownsRow base' e sz v n xs := by
  obtain ⟨h1, h2⟩ := h
  refine ⟨h1, ?_⟩
  rcases h2 with h2 | ⟨g, cap, cur, hv, hg, r⟩
  · exact .inl h2
  · exact .inr ⟨g, cap, cur, hv, Nat.le_trans hb hg, r⟩

/-- stores into cells, one behind the other -/
def storesAt (w : World) (g : Nat) : Nat → List Value → World
  | _, [] => w
  | p, v :: vs => storesAt (w.setCell ⟨g, p, none⟩ v) g (p + 1) vs
theorem grownBy_trans {a b c : World} {r : Option Nat} (h : a.grownBy b r) (k : b.grownBy c r) : a.grownBy c r :=
  ⟨k.os.trans h.os, k.tape.trans h.tape, k.output.trans h.output, Nat.le_trans h.size k.size, fun i hi hr => (k.block i (Nat.lt_of_lt_of_le hi h.size) hr).trans (h.block i hi hr)⟩
theorem own_stores {base : Nat} {e : TypeId} {sz g n cap : Nat} (vs : List Value) : ∀ {w : World} {L : List Value} (p : Nat), w.ownsRow base e sz (.slice (some ⟨g, 0, none⟩) n cap) n L →
    (storesAt w g p vs).ownsRow base e sz (.slice (some ⟨g, 0, none⟩) n cap) n (setR L p vs) ∧ w.grownBy (storesAt w g p vs) (some g) := by
  induction vs with
  | nil => intro w L p h; exact ⟨h, ⟨rfl, rfl, rfl, Nat.le_refl _, fun _ _ _ => rfl⟩⟩
  | cons v vs ih =>
    intro w L p h
    obtain ⟨h1, h2⟩ := h.stored p v
    obtain ⟨h3, h4⟩ := ih (p + 1) h1
    exact ⟨h3, grownBy_trans h2 h4⟩
theorem own_put {α : Type} {enc : α → List Value} {base : Nat} {e : TypeId} {sz g n cap : Nat} (he : ∀ x, (enc x).length = sz) {xs : List α} {Z : List Value} (hZ : Z.length = xs.length * sz) {k : Nat} (hk : k < xs.length) {w : World}
    (h : w.ownsRow base e sz (.slice (some ⟨g, 0, none⟩) n cap) n ((xs.take k).flatMap enc ++ Z.drop (k * sz))) :
    (storesAt w g (k * sz) (enc xs[k])).ownsRow base e sz (.slice (some ⟨g, 0, none⟩) n cap) n ((xs.take (k + 1)).flatMap enc ++ Z.drop ((k + 1) * sz)) ∧ w.grownBy (storesAt w g (k * sz) (enc xs[k])) (some g) := by
  have := own_stores (enc xs[k]) (k * sz) h
  rwa [row_step he xs Z hZ hk] at this

/-! ### What the statements' own functions say -/
theorem below_of_ex {w w' : World} (h : ∃ p : Regrown, w' = Go.Sort.grow (redrawn w p.d) p.os) : Below w.heap.size w w' := by
  obtain ⟨p, rfl⟩ := h
  exact below_regrown w p.d p.os
/-- what is left of a budget; below 0: too much -/
def SzPost (w : World) (left : Int) (n : Nat) (e : Ending) (w' : World) : Prop := ∃ r : Int, e = .returned (.int .i64 r) ∧ (r = -1 ∨ (0 ≤ r ∧ r + n = left)) ∧ Below w.heap.size w w'
/-- a new row, all its cells known -/
def RowPost {α : Type} (w : World) (e : TypeId) (sz : Nat) (enc : α → List Value) (xs : List α) (en : Ending) (w' : World) : Prop :=
  ∃ g, en = .returned (.slice (some ⟨g, 0, none⟩) xs.length xs.length) ∧ w'.ownsRow w.heap.size e sz (.slice (some ⟨g, 0, none⟩) xs.length xs.length) xs.length (xs.flatMap enc) ∧ Below w.heap.size w w'
/-- the sum of the elements' sizes -/
def szAll {α : Type} (f : α → Nat) : List α → Nat
  | [] => 0
  | m :: ms => f m + szAll f ms
theorem szAll_take {α : Type} {f : α → Nat} {ms : List α} {k : Nat} (h : k < ms.length) : szAll f (ms.take (k + 1)) = szAll f (ms.take k) + f ms[k] := by
  induction ms generalizing k with
  | nil => simp at h
  | cons m ms ih =>
    cases k with
    | zero => simp [szAll]
    | succ k =>
      have := ih (k := k) (by simpa using h)
      simp [szAll]
      omega
theorem szAll_mem {α : Type} {f : α → Nat} {ms : List α} {m : α} (h : m ∈ ms) : f m ≤ szAll f ms := by
  induction ms with
  | nil => cases h
  | cons x xs ih =>
    unfold szAll
    cases h with
    | head => omega
    | tail _ h => have := ih h; omega
theorem World.grownBy_refl (w : World) (r : Option Nat) : w.grownBy w r := ⟨rfl, rfl, rfl, Nat.le_refl _, fun _ _ _ => rfl⟩
/-- an owned row that was written, and nothing else -/
def MarkPost (w : World) (base : Nat) (e : TypeId) (sz : Nat) (v : Value) (n : Nat) (cs : List Value) (c : Int) (en : Ending) (w' : World) : Prop :=
  en = .returned (.int .i64 c) ∧ w'.ownsRow base e sz v n cs ∧ w.grownBy w' v.ownBlock
theorem own_as {w : World} {base : Nat} {e : TypeId} {sz : Nat} {v : Value} {n : Nat} {L L' : List Value} (h : w.ownsRow base e sz v n L) (he : L = L') : w.ownsRow base e sz v n L' := he ▸ h
end Go.Proofs.YtlbnjdgfggiifaaGreatDoor

namespace Go.Proofs.YtlbnjdgfggiifaaGreatDoor
open Go.ChangeShapes Go.WideShapes Go.ChangeAt Go.RowKit Go.Sort

/-- The cells of a slice that lies in memory, one behind the other. -/
theorem cellsAt_row {α : Type} {enc : α → List Value} {sz : Nat} (he : ∀ x, (enc x).length = sz) (hs : 0 < sz) {w : World} {b off : Nat} {xs : List α} (h : CellsAt w sz enc b off xs) :
    ∀ j u, (xs.flatMap enc)[j]? = some u → w.cell? ((⟨b, off, none⟩ : Addr).add j) = some u := by
  intro j u hj
  have hlt : j < xs.length * sz := by
    rw [← flatMap_len he]
    exact (List.getElem?_eq_some_iff.1 hj).1
  have hi : j / sz < xs.length := (Nat.div_lt_iff_lt_mul hs).2 hlt
  have hr : j % sz < sz := Nat.mod_lt _ hs
  have hd : j / sz * sz + j % sz = j := by rw [Nat.mul_comm]; exact Nat.div_add_mod j sz
  rw [← hd, flatMap_get he xs hi hr] at hj
  have := h _ hi _ _ hj
  rw [Go.Addr.add_lit]
  rw [show off + j = off + j / sz * sz + j % sz from by omega]
  exact this
theorem flatMap_set {α : Type} {enc : α → List Value} {sz : Nat} (he : ∀ x, (enc x).length = sz) (xs : List α) {i : Nat} (hi : i < xs.length) {j : Nat} (hj : j < sz) (v : Value) (y : α) (hy : enc y = (enc xs[i]).set j v) :
    (xs.flatMap enc).set (i * sz + j) v = (xs.set i y).flatMap enc := by
  induction xs generalizing i with
  | nil => simp at hi
  | cons x xs ih =>
    cases i with
    | zero =>
      rw [List.flatMap_cons, List.set_cons_zero, List.flatMap_cons, hy, Nat.zero_mul, Nat.zero_add, List.set_append_left _ _ (by rw [he]; omega)]
      rfl
    | succ i =>
      have hi' : i < xs.length := by simpa using hi
      rw [List.flatMap_cons, List.set_cons_succ, List.flatMap_cons, List.set_append_right _ _ (by rw [he, Nat.succ_mul]; omega), he]
      rw [show (i + 1) * sz + j - sz = i * sz + j from by rw [Nat.succ_mul]; omega]
      rw [ih hi' hy]
/-- What an owned row gives: the element's cells. -/
theorem own_cells {α : Type} {enc : α → List Value} {sz : Nat} (he : ∀ x, (enc x).length = sz) {w : World} {base : Nat} {e : TypeId} {g cap n : Nat} {xs : List α}
    (h : w.ownsRow base e sz (.slice (some ⟨g, 0, none⟩) n cap) n (xs.flatMap enc)) (hn : n = xs.length) {i : Nat} (hi : i < xs.length) {j : Nat} {v : Value} (hv : (enc xs[i])[j]? = some v) :
    w.cell? ⟨g, i * sz + j, none⟩ = some v := by
  have hj : j < sz := by
    have := (List.getElem?_eq_some_iff.1 hv).1
    rwa [he] at this
  have hlt : i * sz + j < n * sz := by
    have h1 : (i + 1) * sz ≤ n * sz := Nat.mul_le_mul_right _ (by omega)
    rw [Nat.succ_mul] at h1
    omega
  rw [h.cellAt _ hlt, flatMap_get he xs hi hj, hv]
theorem own_shape {w : World} {base : Nat} {e : TypeId} {sz : Nat} {v : Value} {n : Nat} {xs : List Value} (h : w.ownsRow base e sz v n xs) : ∃ a cap, v = .slice a n cap := by
  rcases h.2 with ⟨hv, hn⟩ | ⟨g, cap, _, hv, _⟩
  · exact ⟨none, 0, by rw [hv, hn]⟩
  · exact ⟨_, cap, hv⟩
theorem frozen_kept {w w' : World} {p : Addr} {v : Value} {b : Bool} (hf : w.frozen? p = b) (hc : w.cell? p = some v) (hb : Below w.heap.size w w') : w'.frozen? p = b :=
  (hb.frozen (World.block_lt_of_cell? w p hc)).trans hf
theorem own_alloc {w : World} {base : Nat} {e : TypeId} {sz : Nat} {v : Value} {n : Nat} {xs : List Value} (h : w.ownsRow base e sz v n xs) (o : Obj) : (w.alloc o).ownsRow base e sz v n xs := h.alloc o
/-- A row of the call's own is none of the blocks ahead of it: it stays while one of those is written. -/
theorem own_setCell {w : World} {base : Nat} {e : TypeId} {sz : Nat} {v : Value} {n : Nat} {xs : List Value} (h : w.ownsRow base e sz v n xs) {b o : Nat} (hb : b < base) (u : Value) : (w.setCell ⟨b, o, none⟩ u).ownsRow base e sz v n xs :=
  ownsRow_setCell_below h (a := ⟨b, o, none⟩) hb u
end Go.Proofs.YtlbnjdgfggiifaaGreatDoor

namespace Go.Proofs.YtlbnjdgfggiifaaGreatDoor
open Go.ChangeShapes Go.WideShapes Go.ChangeAt Go.RowKit

def smallB (c : Int) : Bool := decide (97 ≤ c) && decide (c ≤ 122)
def digitB (c : Int) : Bool := decide (48 ≤ c) && decide (c ≤ 57)
def nameCh (c : UInt8) : Bool := smallB c.toNat || digitB c.toNat || c.toNat == 45
def headSmall : List UInt8 → Bool
  | [] => false
  | c :: _ => smallB c.toNat
def isNameL (l : List UInt8) : Bool := decide (1 ≤ l.length) && decide (l.length ≤ 12) && headSmall l && l.all nameCh
def withinB (x lo hi : Int) : Bool := decide (lo ≤ x) && decide (x ≤ hi)

theorem small_any (c : Int) (w : World) : Calls Tryz.prog 79 #[.int .u8 c] w fun e w' => e = .returned (.bool (smallB c)) ∧ w = w' := by
  go_enter Tryz.func79, Tryz.ntmps79
  go_wp2
  all_goals (go_ret; exact ⟨ret_bool (by unfold smallB; rw [Bool.eq_iff_iff]; simp only [Bool.and_eq_true, decide_eq_true_eq, Bool.false_eq_true, false_iff]; omega), rfl⟩)
theorem digit_any (c : Int) (w : World) : Calls Tryz.prog 80 #[.int .u8 c] w fun e w' => e = .returned (.bool (digitB c)) ∧ w = w' := by
  go_enter Tryz.func80, Tryz.ntmps80
  go_wp2
  all_goals (go_ret; exact ⟨ret_bool (by unfold digitB; rw [Bool.eq_iff_iff]; simp only [Bool.and_eq_true, decide_eq_true_eq, Bool.false_eq_true, false_iff]; omega), rfl⟩)
theorem l01Small_any (c : Int) (w : World) : Calls Tryz.prog 84 #[.int .u8 c] w fun e w' => e = .returned (.bool (smallB c)) ∧ w = w' := by
  go_enter Tryz.func84, Tryz.ntmps84
  go_wp2
  all_goals (go_ret; exact ⟨ret_bool (by unfold smallB; rw [Bool.eq_iff_iff]; simp only [Bool.and_eq_true, decide_eq_true_eq, Bool.false_eq_true, false_iff]; omega), rfl⟩)
theorem l01Digit_any (c : Int) (w : World) : Calls Tryz.prog 61 #[.int .u8 c] w fun e w' => e = .returned (.bool (digitB c)) ∧ w = w' := by
  go_enter Tryz.func61, Tryz.ntmps61
  go_wp2
  all_goals (go_ret; exact ⟨ret_bool (by unfold digitB; rw [Bool.eq_iff_iff]; simp only [Bool.and_eq_true, decide_eq_true_eq, Bool.false_eq_true, false_iff]; omega), rfl⟩)
theorem within_any (x lo hi : Int) (w : World) : Calls Tryz.prog 64 #[.int .i64 x, .int .i64 lo, .int .i64 hi] w fun e w' => e = .returned (.bool (withinB x lo hi)) ∧ w = w' := by
  go_enter Tryz.func64, Tryz.ntmps64
  go_wp2
  all_goals (go_ret; exact ⟨ret_bool (by unfold withinB; rw [Bool.eq_iff_iff]; simp only [Bool.and_eq_true, decide_eq_true_eq, Bool.false_eq_true, false_iff]; omega), rfl⟩)
theorem l00In_any (x lo hi : Int) (w : World) : Calls Tryz.prog 85 #[.int .i64 x, .int .i64 lo, .int .i64 hi] w fun e w' => e = .returned (.bool (withinB x lo hi)) ∧ w = w' := by
  go_enter Tryz.func85, Tryz.ntmps85
  go_wp2
  all_goals (go_ret; exact ⟨ret_bool (by unfold withinB; rw [Bool.eq_iff_iff]; simp only [Bool.and_eq_true, decide_eq_true_eq, Bool.false_eq_true, false_iff]; omega), rfl⟩)

theorem take_all_succ {l : List UInt8} {p : UInt8 → Bool} {k : Nat} (h : k < l.length) : (l.take (k + 1)).all p = ((l.take k).all p && p l[k]) := by
  rw [List.take_succ_eq_append_getElem h, List.all_append]
  simp
theorem all_false_of {l : List UInt8} {p : UInt8 → Bool} {k : Nat} (h : k < l.length) (hp : p l[k] = false) : l.all p = false := by
  rw [List.all_eq_false]
  exact ⟨l[k], List.getElem_mem h, by simp [hp]⟩
theorem name_no_short {l : List UInt8} (h : l.length < 1) : isNameL l = false := by
  unfold isNameL
  have : decide (1 ≤ l.length) = false := by simpa using h
  simp [this]
theorem name_no_long {l : List UInt8} (h : 12 < l.length) : isNameL l = false := by
  unfold isNameL
  have : decide (l.length ≤ 12) = false := by simpa using h
  simp [this]
theorem headSmall_get {l : List UInt8} (h : 0 < l.length) : headSmall l = smallB l[0].toNat := by
  cases l with
  | nil => simp at h
  | cons c l => rfl
theorem name_no_head {l : List UInt8} (h : headSmall l = false) : isNameL l = false := by
  unfold isNameL
  simp [h]
theorem name_no_char {l : List UInt8} {k : Nat} (h : k < l.length) (hp : nameCh l[k] = false) : isNameL l = false := by
  unfold isNameL
  simp [all_false_of h hp]
theorem name_yes {l : List UInt8} (h1 : 1 ≤ l.length) (h2 : l.length ≤ 12) (h3 : headSmall l = true) (h4 : (l.take l.length).all nameCh = true) : isNameL l = true := by
  unfold isNameL
  rw [List.take_length] at h4
  simp [h1, h2, h3, h4]
theorem bytes_get (s : ByteArray) (k : Nat) (h : k < s.size) : s.data.toList[k]'(by simpa using h) = s[k] := rfl
theorem nameCh_s {c : UInt8} (h : smallB c.toNat = true) : nameCh c = true := by simp [nameCh, h]
theorem nameCh_d {c : UInt8} (h : digitB c.toNat = true) : nameCh c = true := by simp [nameCh, h]
theorem nameCh_m {c : UInt8} (h : ((c.toNat : Int) != 45) = false) : nameCh c = true := by
  have h' : c.toNat = 45 := by simp at h; omega
  simp [nameCh, h']
theorem nameCh_no {c : UInt8} (h1 : ¬ smallB c.toNat = true) (h2 : ¬ digitB c.toNat = true) (h3 : ((c.toNat : Int) != 45) = true) : nameCh c = false := by
  have h' : ¬ c.toNat = 45 := by simp at h3; omega
  simp [nameCh, h1, h2, h']

set_option maxHeartbeats 1000000 in
theorem IsName_any (s : ByteArray) (w : World) (hs : s.size ≤ 9223372036854775807) : Calls Tryz.prog 63 #[.string s] w fun e w' => e = .returned (.bool (isNameL s.data.toList)) ∧ w = w' := by
  have hl : s.data.toList.length = s.size := by simp
  have HL := Lib.hid hl
  clear hl
  by_cases h1 : s.size < 1
  · go_enter Tryz.func63, Tryz.ntmps63
    go_wp2
    go_ret
    exact ⟨ret_bool (name_no_short (by rw [HL.out]; omega)).symm, rfl⟩
  · by_cases h2 : 12 < s.size
    · go_enter Tryz.func63, Tryz.ntmps63
      go_wp2
      go_ret
      exact ⟨ret_bool (name_no_long (by rw [HL.out]; omega)).symm, rfl⟩
    · have hh := headSmall_get (l := s.data.toList) (by rw [HL.out]; omega)
      rw [bytes_get s 0 (by omega)] at hh
      have HH := Lib.hid hh
      clear hh
      by_cases h3 : smallB s[0].toNat = true
      · go_enter Tryz.func63, Tryz.ntmps63
        go_wp2_with (go_at_call 79; refine (small_any _ _).mono ?_; rintro e w' ⟨rfl, rfl⟩)
        go_loop [3] (fun i => ∃ k : Nat, k ≤ s.size ∧ i = .int .i64 k ∧ (s.data.toList.take k).all nameCh = true) (fun i => s.size - (intOf i).toNat)
        case atStart => exact ⟨0, Nat.zero_le _, rfl, rfl⟩
        case round =>
          obtain ⟨k, hk, rfl, ha⟩ := hrel
          have HA := Lib.hid ha
          clear ha
          by_cases hlt : k < s.size
          · go_wp2_with (first | (go_at_call 79; refine (small_any _ _).mono ?_; rintro e w' ⟨rfl, rfl⟩) | (go_at_call 80; refine (digit_any _ _).mono ?_; rintro e w' ⟨rfl, rfl⟩))
            all_goals first
              | (go_ret
                 exact ⟨ret_bool (name_no_char (k := k) (by rw [HL.out]; omega) (nameCh_no ‹_› ‹_› ‹_›)).symm, rfl⟩)
              | (go_round
                 case rel => exact ⟨k + 1, by omega, by go_num, by rw [take_all_succ (by rw [HL.out]; omega), HA.out, Bool.true_and]; first | exact nameCh_s ‹_› | exact nameCh_d ‹_› | exact nameCh_m ‹_›⟩
                 case measure => simp [intOf]; omega)
          · go_wp2
            go_ret
            exact ⟨ret_bool (name_yes (by rw [HL.out]; omega) (by rw [HL.out]; omega) (by rw [HH.out]; exact h3) (by rw [HL.out, show s.size = k from by omega]; exact HA.out)).symm, rfl⟩
      · go_enter Tryz.func63, Tryz.ntmps63
        go_wp2_with (go_at_call 79; refine (small_any _ _).mono ?_; rintro e w' ⟨rfl, rfl⟩)
        go_ret
        exact ⟨ret_bool (name_no_head (by rw [HH.out]; simpa using h3)).symm, rfl⟩
set_option maxHeartbeats 1000000 in
theorem specIsName_any (s : ByteArray) (w : World) (hs : s.size ≤ 9223372036854775807) : Calls Tryz.prog 66 #[.string s] w fun e w' => e = .returned (.bool (isNameL s.data.toList)) ∧ w = w' := by
  have hl : s.data.toList.length = s.size := by simp
  have HL := Lib.hid hl
  clear hl
  by_cases h1 : s.size < 1
  · have he := ba_empty h1
    have he2 := ba_nil h1
    go_enter Tryz.func66, Tryz.ntmps66
    go_wp2
    go_ret
    exact ⟨ret_bool (name_no_short (by rw [HL.out]; omega)).symm, rfl⟩
  · have hne := ba_full h1
    have hne2 := ba_notnil h1
    by_cases h2 : 12 < s.size
    · go_enter Tryz.func66, Tryz.ntmps66
      go_wp2
      go_ret
      exact ⟨ret_bool (name_no_long (by rw [HL.out]; omega)).symm, rfl⟩
    · have hh := headSmall_get (l := s.data.toList) (by rw [HL.out]; omega)
      rw [bytes_get s 0 (by omega)] at hh
      have HH := Lib.hid hh
      clear hh
      by_cases h3 : smallB s[0].toNat = true
      · go_enter Tryz.func66, Tryz.ntmps66
        go_wp2_with (go_at_call 84; refine (l01Small_any _ _).mono ?_; rintro e w' ⟨rfl, rfl⟩)
        go_loop [3] (fun i => ∃ k : Nat, k ≤ s.size ∧ i = .int .i64 k ∧ (s.data.toList.take k).all nameCh = true) (fun i => s.size - (intOf i).toNat)
        case atStart => exact ⟨0, Nat.zero_le _, rfl, rfl⟩
        case round =>
          obtain ⟨k, hk, rfl, ha⟩ := hrel
          have HA := Lib.hid ha
          clear ha
          by_cases hlt : k < s.size
          · go_wp2_with (first | (go_at_call 84; refine (l01Small_any _ _).mono ?_; rintro e w' ⟨rfl, rfl⟩) | (go_at_call 61; refine (l01Digit_any _ _).mono ?_; rintro e w' ⟨rfl, rfl⟩))
            all_goals first
              | (go_ret
                 exact ⟨ret_bool (name_no_char (k := k) (by rw [HL.out]; omega) (nameCh_no ‹_› ‹_› ‹_›)).symm, rfl⟩)
              | (go_round
                 case rel => exact ⟨k + 1, by omega, by go_num, by rw [take_all_succ (by rw [HL.out]; omega), HA.out, Bool.true_and]; first | exact nameCh_s ‹_› | exact nameCh_d ‹_› | exact nameCh_m ‹_›⟩
                 case measure => simp [intOf]; omega)
          · go_wp2
            go_ret
            exact ⟨ret_bool (name_yes (by rw [HL.out]; omega) (by rw [HL.out]; omega) (by rw [HH.out]; exact h3) (by rw [HL.out, show s.size = k from by omega]; exact HA.out)).symm, rfl⟩
      · go_enter Tryz.func66, Tryz.ntmps66
        go_wp2_with (go_at_call 84; refine (l01Small_any _ _).mono ?_; rintro e w' ⟨rfl, rfl⟩)
        go_ret
        exact ⟨ret_bool (name_no_head (by rw [HH.out]; simpa using h3)).symm, rfl⟩
end Go.Proofs.YtlbnjdgfggiifaaGreatDoor

namespace Go.Proofs.YtlbnjdgfggiifaaGreatDoor
open Go.ChangeShapes Go.WideShapes Go.ChangeAt Go.RowKit Go.Sort

def mtDig (k : Nat) (out : List UInt8) : List UInt8 :=
  if k = 0 then out else mtDig (k / 10) (UInt8.ofNat (48 + k % 10) :: out)
  termination_by k
  decreasing_by omega
def mtL (k : Nat) : List UInt8 := if k = 0 then [109, 48] else 109 :: mtDig k []
def mtext (k : Nat) : ByteArray := ⟨(mtL k).toArray⟩

theorem bs_app (a b : List UInt8) : (⟨a.toArray⟩ : ByteArray) ++ ⟨b.toArray⟩ = ⟨(a ++ b).toArray⟩ := by
  apply ByteArray.ext
  simp
theorem bs_cons (x : Int) (n : Nat) (out : List UInt8) (h : x.toNat = n) : Value.string (strOfNums [x] ++ ⟨out.toArray⟩) = Value.string ⟨(UInt8.ofNat n :: out).toArray⟩ := by
  subst h
  rw [show strOfNums [x] = ⟨[UInt8.ofNat x.toNat].toArray⟩ from rfl, bs_app]
  rfl
end Go.Proofs.YtlbnjdgfggiifaaGreatDoor

namespace Go.Proofs.YtlbnjdgfggiifaaGreatDoor
open Go.ChangeShapes Go.WideShapes Go.ChangeAt Go.RowKit Go.Sort

/-- where a row lies, and its capacity -/
structure Rwa where
  a : Option Addr
  c : Nat
theorem row_store {w w' : World} {base g : Nat} {e : TypeId} {sz n : Nat} {v : Value} {L : List Value} (h : w.ownsRow base e sz v n L) (hg : w.grownBy w' (some g)) (hlt : g < base) : w'.ownsRow base e sz v n L :=
  h.kept hg (.inr fun k => by have := (h.lt g k).1; omega)
end Go.Proofs.YtlbnjdgfggiifaaGreatDoor
