/- Plain definitions and lemmas on memory that the seat's walks share: slices that lie in mem · How an argument that is read as data lies in memory: structs by value, slices of structs.  -/
import Derived.WalkKit
import Derived.ProofKit
import Derived.WalkLawsBesides
import Derived.Outline
import Derived.Lib.Hide
import Derived.BigQuiet
import Derived.Deep.QuietTactic
import Derived.Lib.QuietBelow
import Derived.Handy
import Derived.Test.YtjdcdhhbgijaoaaGreatDoorProg
import Derived.Lib.SmallJoins
import Derived.Deep.Slices
import Derived.Deep.Fields
import Derived.ShutString
import Derived.ChangeOld
import Derived.ChangeSame
namespace Go.Proofs.YtjdcdhhbgijaoaaGreatDoor
open Go.ChangeShapes Go.WideShapes Go.ChangeAt Go.RowKit

/-- The world after some draws. -/
def Drew (w w' : World) : Prop := ∃ n, w' = w.drewN n
theorem Drew.refl (w : World) : Drew w w := ⟨0, rfl⟩
theorem Drew.trans {a b c : World} (h : Drew a b) (k : Drew b c) : Drew a c := by
  obtain ⟨n, rfl⟩ := h
  obtain ⟨m, rfl⟩ := k
  exact ⟨n + m, by rw [World.drewN_drewN]⟩
theorem Drew.drewN {a b : World} (h : Drew a b) (n : Nat) : Drew a (b.drewN n) := h.trans ⟨n, rfl⟩
theorem Drew.drew {a b : World} (h : Drew a b) : Drew a b.drew := h.trans ⟨1, rfl⟩
theorem drewN_heap (w : World) (n : Nat) : (w.drewN n).heap = w.heap := by
  cases n <;> rfl
theorem Drew.heap {a b : World} (h : Drew a b) : b.heap = a.heap := by
  obtain ⟨n, rfl⟩ := h
  exact drewN_heap a n
theorem Drew.cell {a b : World} (h : Drew a b) (p : Addr) : b.cell? p = a.cell? p := by simp [World.cell?, h.heap]
theorem Drew.frozen {a b : World} (h : Drew a b) (p : Addr) : b.frozen? p = a.frozen? p := by simp [World.frozen?, h.heap]
theorem Drew.below {a b : World} (h : Drew a b) (B : Nat) : Below B a b := by
  obtain ⟨n, rfl⟩ := h
  induction n with
  | zero => exact Below.refl _ _
  | succ n ih => exact ⟨rfl, rfl, rfl, Nat.le_refl _, fun _ _ => rfl⟩
/-- A callee's contract that ends in 'Drew', met in a quiet region. -/
theorem quiet_of_drew {P : Program} {f : FuncId} {args : Array Value} {w : World} {n : Nat} {v : Value}
    (h : Calls P f args (w.drewN n) fun e w' => e = .returned v ∧ Drew (w.drewN n) w') : Calls P f args (w.drewN n) fun e w'' => e = .returned v ∧ ∃ m, w'' = w.drewN m :=
  Calls.quiet_of h
/-- .. and one that leaves the world alone. -/
theorem quiet_of_eq {P : Program} {f : FuncId} {args : Array Value} {w : World} {n : Nat} {v : Value}
    (h : Calls P f args (w.drewN n) fun e w' => e = .returned v ∧ w.drewN n = w') : Calls P f args (w.drewN n) fun e w'' => e = .returned v ∧ ∃ m, w'' = w.drewN m :=
  h.mono fun _ _ ⟨he, hm⟩ => ⟨he, n, hm.symm⟩

theorem ret_bool {a b : Bool} (h : a = b) : Ending.returned (.bool a) = .returned (.bool b) := by rw [h]
theorem ret_int {k : IntKind} {a b : Int} (h : a = b) : Ending.returned (.int k a) = .returned (.int k b) := by rw [h]

/-- A slice's elements (of sz cells each) lie in memory. -/
def SliceAt {α : Type} (w : World) (sz : Nat) (enc : α → List Value) (a : Option Addr) (xs : List α) : Prop :=
  xs = [] ∨ ∃ b off, a = some ⟨b, off, none⟩ ∧ ∀ i (h : i < xs.length) j v, (enc xs[i])[j]? = some v → w.cell? ⟨b, off + i * sz + j, none⟩ = some v

theorem SliceAt.nil {α : Type} (w : World) (sz : Nat) (enc : α → List Value) (a : Option Addr) : SliceAt w sz enc a ([] : List α) := .inl rfl
/-- The cells of the elements, at an address that is known. -/
def CellsAt {α : Type} (w : World) (sz : Nat) (enc : α → List Value) (b off : Nat) (xs : List α) : Prop :=
  ∀ i (h : i < xs.length) j v, (enc xs[i])[j]? = some v → w.cell? ⟨b, off + i * sz + j, none⟩ = some v
theorem SliceAt.open {α : Type} {w : World} {sz : Nat} {enc : α → List Value} {a : Option Addr} {xs : List α} (h : SliceAt w sz enc a xs) {k : Nat} (hk : k < xs.length) :
    ∃ b off, a = some ⟨b, off, none⟩ ∧ CellsAt w sz enc b off xs := by
  rcases h with rfl | ⟨b, off, ha, hc⟩
  · simp at hk
  · exact ⟨b, off, ha, hc⟩
theorem CellsAt.at0 {α : Type} {w : World} {sz : Nat} {enc : α → List Value} {b off : Nat} {xs : List α} (h : CellsAt w sz enc b off xs) {k : Nat} (hk : k < xs.length) {v : Value} (hv : (enc xs[k])[0]? = some v) :
    w.cell? ⟨b, off + k * sz, none⟩ = some v := h k hk 0 v hv
theorem CellsAt.slice {α : Type} {w : World} {sz : Nat} {enc : α → List Value} {b off : Nat} {xs : List α} (h : CellsAt w sz enc b off xs) : SliceAt w sz enc (some ⟨b, off, none⟩) xs :=
  .inr ⟨b, off, rfl, h⟩

theorem CellsAt.below {α : Type} {w w' : World} {sz : Nat} {enc : α → List Value} {b off : Nat} {xs : List α} (h : CellsAt w sz enc b off xs) {B : Nat} (hb : Below B w w') (hB : b < B) : CellsAt w' sz enc b off xs :=
  fun i hi j v hv => (hb.cell (p := ⟨b, off + i * sz + j, none⟩) hB).trans (h i hi j v hv)
theorem cell_alloc {w : World} {p : Addr} {v : Value} (h : w.cell? p = some v) (o : Obj) : (w.alloc o).cell? p = some v :=
  (((Below.refl w.heap.size w).alloc (Nat.le_refl _) o).cell (World.block_lt_of_cell? w p h)).trans h
theorem cell_new0 (w : World) (cs : Array Value) (t : TypeId) {i : Nat} {v : Value} (h : cs[i]? = some v) : (w.alloc (.cells cs t)).cell? ⟨w.heap.size, i, none⟩ = some v := by
  rw [World.cell?_alloc_mark]
  exact h
theorem cell_kept {w w' : World} {p : Addr} {v : Value} (h : w.cell? p = some v) (hb : Below w.heap.size w w') : w'.cell? p = some v :=
  (hb.cell (World.block_lt_of_cell? w p h)).trans h
theorem block_lt {w : World} {b o : Nat} {v : Value} (h : w.cell? ⟨b, o, none⟩ = some v) : b < w.heap.size := World.block_lt_of_cell? w ⟨b, o, none⟩ h
theorem SliceAt.kept {α : Type} {w w' : World} {sz : Nat} {enc : α → List Value} {a : Option Addr} {xs : List α} (h : SliceAt w sz enc a xs) (hb : Below w.heap.size w w') : SliceAt w' sz enc a xs := by
  rcases h with h | ⟨b, off, ha, hc⟩
  · exact .inl h
  · exact .inr ⟨b, off, ha, fun i hi j v hv => (hb.cell (p := ⟨b, off + i * sz + j, none⟩) (block_lt (hc i hi j v hv))).trans (hc i hi j v hv)⟩
theorem SliceAt.drew {α : Type} {w w' : World} {sz : Nat} {enc : α → List Value} {a : Option Addr} {xs : List α} (h : SliceAt w sz enc a xs) (hb : Drew w w') : SliceAt w' sz enc a xs :=
  h.kept (hb.below _)

/-! ### Rows of elements -/
theorem flatMap_get {α : Type} {enc : α → List Value} {sz : Nat} (he : ∀ x, (enc x).length = sz) (xs : List α) {i : Nat} (hi : i < xs.length) {j : Nat} (hj : j < sz) :
    (xs.flatMap enc)[i * sz + j]? = (enc xs[i])[j]? := by
  induction xs generalizing i with
  | nil => simp at hi
  | cons x xs ih =>
    rw [List.flatMap_cons]
    cases i with
    | zero => rw [List.getElem?_append_left (by rw [he]; omega)]; simp
    | succ i =>
      rw [List.getElem?_append_right (by rw [he, Nat.succ_mul]; omega), he]
      have e : (i + 1) * sz + j - sz = i * sz + j := by rw [Nat.succ_mul]; omega
      rw [e, ih (by simpa using hi)]
      rfl
theorem own_slice {α : Type} {enc : α → List Value} {sz : Nat} (he : ∀ x, (enc x).length = sz) {w : World} {base : Nat} {e : TypeId} {a : Option Addr} {cap n : Nat} {xs : List α}
    (h : w.ownsRow base e sz (.slice a n cap) n (xs.flatMap enc)) (hn : n = xs.length) : SliceAt w sz enc a xs := by
  obtain ⟨hl, h2⟩ := h
  rcases h2 with ⟨_, h0⟩ | ⟨g, cap', cur, hv, hb, hg, hc, hm, hs, ht⟩
  · left
    cases xs with
    | nil => rfl
    | cons x xs => simp at hn; omega
  · right
    simp only [Value.slice.injEq] at hv
    obtain ⟨rfl, _, _⟩ := hv
    refine ⟨g, 0, rfl, fun i hi j v hv => ?_⟩
    have hj : j < sz := by
      have := (List.getElem?_eq_some_iff.1 hv).1
      rwa [he] at this
    have h1 := flatMap_get he xs hi hj
    rw [hv, ← ht, List.getElem?_take] at h1
    split at h1
    · rw [show (⟨g, 0 + i * sz + j, none⟩ : Addr) = ⟨g, i * sz + j, none⟩ from by simp, cell_of_row w g (i * sz + j) cur e (0, 0) hg]
      simpa using h1
    · cases h1

/-- cells laid over a row, one behind the other -/
def setR : List Value → Nat → List Value → List Value
  | L, _, [] => L
  | L, p, v :: vs => setR (L.set p v) (p + 1) vs
theorem setR_append (vs : List Value) : ∀ (A B : List Value) (p : Nat), A.length = p → vs.length ≤ B.length → setR (A ++ B) p vs = A ++ (vs ++ B.drop vs.length) := by
  induction vs with
  | nil => intro A B p _ _; simp [setR]
  | cons v vs ih =>
    intro A B p hA hB
    cases B with
    | nil => simp at hB
    | cons b B =>
      have e : (A ++ b :: B).set p v = (A ++ [v]) ++ B := by
        rw [List.set_append_right _ _ (by omega), hA, Nat.sub_self]
        simp
      rw [setR, e, ih (A ++ [v]) B (p + 1) (by simp [hA]) (by simpa using hB)]
      simp
theorem grown_of_below {w w' : World} {row : Option Nat} (hb : Below w.heap.size w w') : w.grownBy w' row := ⟨hb.os, hb.tape, hb.output, hb.size, fun k hk _ => hb.block k hk⟩
theorem own_below {w w' : World} {base : Nat} {e : TypeId} {sz : Nat} {v : Value} {n : Nat} {xs : List Value} (h : w.ownsRow base e sz v n xs) (hb : Below w.heap.size w w') : w'.ownsRow base e sz v n xs := by
  refine h.kept (row := none) (grown_of_below hb) ?_
  cases hv : v.ownBlock <;> simp
/-- a row that is read by one who does not write it stays -/
theorem own_mono {w : World} {base base' : Nat} {e : TypeId} {sz : Nat} {v : Value} {n : Nat} {xs : List Value} (h : w.ownsRow base e sz v n xs) (hb : base' ≤ base) : w.ownsRow base' e sz v n xs := by
  obtain ⟨h1, h2⟩ := h
  refine ⟨h1, ?_⟩
  rcases h2 with h2 | ⟨g, cap, cur, hv, hg, r⟩
  · exact .inl h2
  · exact .inr ⟨g, cap, cur, hv, Nat.le_trans hb hg, r⟩

theorem grownBy_trans {a b c : World} {r : Option Nat} (h : a.grownBy b r) (k : b.grownBy c r) : a.grownBy c r :=
  ⟨k.os.trans h.os, k.tape.trans h.tape, k.output.trans h.output, Nat.le_trans h.size k.size, fun i hi hr => (k.block i (Nat.lt_of_lt_of_le hi h.size) hr).trans (h.block i hi hr)⟩
theorem below_of_ex {w w' : World} (h : ∃ p : Regrown, w' = Go.Sort.grow (redrawn w p.d) p.os) : Below w.heap.size w w' := by
  obtain ⟨p, rfl⟩ := h
  exact below_regrown w p.d p.os
theorem World.grownBy_refl (w : World) (r : Option Nat) : w.grownBy w r := ⟨rfl, rfl, rfl, Nat.le_refl _, fun _ _ _ => rfl⟩
theorem own_as {w : World} {base : Nat} {e : TypeId} {sz : Nat} {v : Value} {n : Nat} {L L' : List Value} (h : w.ownsRow base e sz v n L) (he : L = L') : w.ownsRow base e sz v n L' := he ▸ h
end Go.Proofs.YtjdcdhhbgijaoaaGreatDoor

namespace Go.Proofs.YtjdcdhhbgijaoaaGreatDoor
open Go.ChangeShapes Go.WideShapes Go.ChangeAt Go.RowKit Go.Sort

/-- What an owned row gives: the element's cells. -/
theorem own_cells {α : Type} {enc : α → List Value} {sz : Nat} (he : ∀ x, (enc x).length = sz) {w : World} {base : Nat} {e : TypeId} {g cap n : Nat} {xs : List α}
    (h : w.ownsRow base e sz (.slice (some ⟨g, 0, none⟩) n cap) n (xs.flatMap enc)) (hn : n = xs.length) {i : Nat} (hi : i < xs.length) {j : Nat} {v : Value} (hv : (enc xs[i])[j]? = some v) :
    w.cell? ⟨g, i * sz + j, none⟩ = some v := by
  have hj : j < sz := by
    have := (List.getElem?_eq_some_iff.1 hv).1
    rwa [he] at this
  have hlt : i * sz + j < n * sz := by
    have h1 : (i + 1) * sz ≤ n * sz := Nat.mul_le_mul_right _ (by omega)
    rw [Nat.succ_mul] at h1
    omega
  rw [h.cellAt _ hlt, flatMap_get he xs hi hj, hv]
theorem own_alloc {w : World} {base : Nat} {e : TypeId} {sz : Nat} {v : Value} {n : Nat} {xs : List Value} (h : w.ownsRow base e sz v n xs) (o : Obj) : (w.alloc o).ownsRow base e sz v n xs := h.alloc o
end Go.Proofs.YtjdcdhhbgijaoaaGreatDoor

namespace Go.Proofs.YtjdcdhhbgijaoaaGreatDoor
open Go.ChangeShapes Go.WideShapes Go.ChangeAt Go.RowKit

def smallB (c : Int) : Bool := decide (97 ≤ c) && decide (c ≤ 122)
def digitB (c : Int) : Bool := decide (48 ≤ c) && decide (c ≤ 57)
def withinB (x lo hi : Int) : Bool := decide (lo ≤ x) && decide (x ≤ hi)

theorem small_any (c : Int) (w : World) : Calls Tryz.prog 140 #[.int .u8 c] w fun e w' => e = .returned (.bool (smallB c)) ∧ w = w' := by
  go_enter Tryz.func140, Tryz.ntmps140
  go_wp2
  all_goals (go_ret; exact ⟨ret_bool (by unfold smallB; rw [Bool.eq_iff_iff]; simp only [Bool.and_eq_true, decide_eq_true_eq, Bool.false_eq_true, false_iff]; omega), rfl⟩)
theorem l01Small_any (c : Int) (w : World) : Calls Tryz.prog 182 #[.int .u8 c] w fun e w' => e = .returned (.bool (smallB c)) ∧ w = w' := by
  go_enter Tryz.func182, Tryz.ntmps182
  go_wp2
  all_goals (go_ret; exact ⟨ret_bool (by unfold smallB; rw [Bool.eq_iff_iff]; simp only [Bool.and_eq_true, decide_eq_true_eq, Bool.false_eq_true, false_iff]; omega), rfl⟩)
theorem l01Digit_any (c : Int) (w : World) : Calls Tryz.prog 268 #[.int .u8 c] w fun e w' => e = .returned (.bool (digitB c)) ∧ w = w' := by
  go_enter Tryz.func268, Tryz.ntmps268
  go_wp2
  all_goals (go_ret; exact ⟨ret_bool (by unfold digitB; rw [Bool.eq_iff_iff]; simp only [Bool.and_eq_true, decide_eq_true_eq, Bool.false_eq_true, false_iff]; omega), rfl⟩)
theorem within_any (x lo hi : Int) (w : World) : Calls Tryz.prog 136 #[.int .i64 x, .int .i64 lo, .int .i64 hi] w fun e w' => e = .returned (.bool (withinB x lo hi)) ∧ w = w' := by
  go_enter Tryz.func136, Tryz.ntmps136
  go_wp2
  all_goals (go_ret; exact ⟨ret_bool (by unfold withinB; rw [Bool.eq_iff_iff]; simp only [Bool.and_eq_true, decide_eq_true_eq, Bool.false_eq_true, false_iff]; omega), rfl⟩)
theorem l00In_any (x lo hi : Int) (w : World) : Calls Tryz.prog 181 #[.int .i64 x, .int .i64 lo, .int .i64 hi] w fun e w' => e = .returned (.bool (withinB x lo hi)) ∧ w = w' := by
  go_enter Tryz.func181, Tryz.ntmps181
  go_wp2
  all_goals (go_ret; exact ⟨ret_bool (by unfold withinB; rw [Bool.eq_iff_iff]; simp only [Bool.and_eq_true, decide_eq_true_eq, Bool.false_eq_true, false_iff]; omega), rfl⟩)

theorem take_all_succ {l : List UInt8} {p : UInt8 → Bool} {k : Nat} (h : k < l.length) : (l.take (k + 1)).all p = ((l.take k).all p && p l[k]) := by
  rw [List.take_succ_eq_append_getElem h, List.all_append]
  simp
theorem all_false_of {l : List UInt8} {p : UInt8 → Bool} {k : Nat} (h : k < l.length) (hp : p l[k] = false) : l.all p = false := by
  rw [List.all_eq_false]
  exact ⟨l[k], List.getElem_mem h, by simp [hp]⟩
theorem bytes_get (s : ByteArray) (k : Nat) (h : k < s.size) : s.data.toList[k]'(by simpa using h) = s[k] := rfl
end Go.Proofs.YtjdcdhhbgijaoaaGreatDoor

namespace Go.Proofs.YtjdcdhhbgijaoaaGreatDoor
open Go.ChangeShapes Go.WideShapes Go.ChangeAt Go.RowKit Go.Sort

end Go.Proofs.YtjdcdhhbgijaoaaGreatDoor

namespace Go.Proofs.YtjdcdhhbgijaoaaGreatDoor
open Go.ChangeShapes Go.WideShapes Go.ChangeAt Go.RowKit Go.Sort

/-- where a row lies, and its capacity -/
structure Rwa where
  a : Option Addr
  c : Nat
theorem row_store {w w' : World} {base g : Nat} {e : TypeId} {sz n : Nat} {v : Value} {L : List Value} (h : w.ownsRow base e sz v n L) (hg : w.grownBy w' (some g)) (hlt : g < base) : w'.ownsRow base e sz v n L :=
  h.kept hg (.inr fun k => by have := (h.lt g k).1; omega)
end Go.Proofs.YtjdcdhhbgijaoaaGreatDoor
namespace Go.Proofs.YtjdcdhhbgijaoaaGreatDoor
open Go.ChangeShapes Go.WideShapes Go.ChangeAt Go.RowKit Go.Sort Go.Joins Go.Deep

section
variable {H : Type} {ec : TypeId × Value → H} {P : Program} {w : World} {base : Nat} {spare : Nat → Bool} {held : Bool}
/-- A slice of such elements, as a list in memory. 'good': what each element's reading gives. -/
theorem read_slice {α : Type} [Inhabited α] {enc : α → List Value} {sz : Nat} {good : α → Prop} {t e : TypeId} {fuel : Nat} {v : Value} {x : DataW H × List MemPlace} (ht : P.underlying t = some (.slice e)) (hC : P.cellsOf e = sz) (hsz : 0 < sz)
    (hel : ∀ m cs y, DataW.trod ec P w base spare held m e cs = some y → ∃ a : α, cs = enc a ∧ good a) (h : DataW.trod ec P w base spare held fuel t [v] = some x) :
    ∃ (a : Option Addr) (cap : Nat) (xs : List α), v = .slice a xs.length cap ∧ SliceAt w sz enc a xs ∧ (∀ y ∈ xs, good y) ∧ xs.length ≤ 9223372036854775807 := by
  rcases open_slice ht h with ⟨h0, _⟩ | ⟨a, len, cap, m, n, D, Pl, hcs, hb, hl, hm, hmm, hx, hi⟩
  · simp only [List.cons.injEq, and_true] at h0
    exact ⟨none, 0, [], h0, SliceAt.nil _ _ _ _, (fun _ hy => by cases hy), by simp⟩
  · have hlm : len ≤ m := by rw [hmm]; split <;> omega
    simp only [List.cons.injEq, and_true] at hcs
    have hex : ∀ i, i < len → ∃ y : α, good y ∧ ∀ j v, (enc y)[j]? = some v → w.cell? (a.add (i * sz + j)) = some v := by
      intro i him
      obtain ⟨cs', hc, ht'⟩ := hi i (by omega)
      rw [hC] at hc
      obtain ⟨_, hcl, hat⟩ := World.cells?_some hc
      obtain ⟨y, rfl, hg⟩ := hel _ _ _ ht'
      refine ⟨y, hg, fun j v hv => ?_⟩
      have hj : j < sz := by rw [← hcl]; exact (List.getElem?_eq_some_iff.1 hv).1
      rw [← add_add, hat j hj, hv]
    obtain ⟨f, hf⟩ := choose_lt hex
    have hxl : ((List.range len).map f).length = len := by simp
    refine ⟨some a, cap, (List.range len).map f, by rw [hxl]; exact hcs, ?_, ?_, by rw [hxl]; unfold maxLen at hm; omega⟩
    · cases len with
      | zero => exact .inl (by simp)
      | succ len =>
        right
        obtain ⟨b, off, spot⟩ := a
        obtain ⟨cs0, hc0, ht0⟩ := hi 0 (by omega)
        rw [hC] at hc0
        obtain ⟨_, hcl0, hat0⟩ := World.cells?_some hc0
        have h00 := hat0 0 hsz
        rw [List.getElem?_eq_getElem (by omega)] at h00
        have hsp := World.cell?_spot h00
        simp only [Nat.zero_mul, Addr.add_zero'] at hsp
        subst hsp
        refine ⟨b, off, rfl, fun i hil j v hv => ?_⟩
        rw [hxl] at hil
        have := (hf i hil).2 j v (by simpa using hv)
        rw [Addr.add_lit] at this
        rw [show off + i * sz + j = off + (i * sz + j) from by omega]
        exact this
    · intro y hy
      obtain ⟨i, hi', rfl⟩ := List.mem_map.1 hy
      exact (hf i (List.mem_range.1 hi')).1
end
end Go.Proofs.YtjdcdhhbgijaoaaGreatDoor
