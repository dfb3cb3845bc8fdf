/- Steps of a region that draws its order (for a seat without games): an operation that may c · Plain definitions and lemmas: tiles, piles, counts of tiles, whether one pile contains ano -/
import Derived.Test.YtjdcdhhbgijaoaaGreatDoorVar
import Derived.Deep.DeepMust
import Derived.Deep.MidRow
import Derived.Test.YtjdcdhhbgijaoaaGreatDoorPlaP
namespace Go.Proofs.YtjdcdhhbgijaoaaGreatDoor
open Go.ChangeShapes Go.WideShapes Go.ChangeAt Go.RowKit Go.Sort

theorem wpAnyH_slot {P : Program} {md : Region.Mode} {ops : Array Oper} {Q : Exit → Act → World → Prop} {S : World → Prop} {i : Nat} {oi : Oper} (d : Nat) {v : Value} {fuel : Nat} {listed : Array Bool} {a : Act} {w : World} (hi : ops[i]? = some oi) (hd : oi.dst = some d)
    (hs : Region.noSelect ops = true) (hf : Region.free md ops listed i = true) (hr : (Region.ready md ops listed).contains i = true)
    (hQ : ∀ c a w, Q (.panic c) (a.put oi.dst v) w → Q (.panic c) a w) (hy : YieldsIf P ops S oi v a) (hS : S w)
    (h : wpAnyH P md ops Q S fuel (listed.setIfInBounds i true) { a with tmps := a.tmps.setIfInBounds d v } w) : wpAnyH P md ops Q S (fuel + 1) listed a w :=
  wpAnyH_take hi hs hf hr hQ hy hS (by rw [hd]; exact h)
theorem slotA {P : Program} {md : Region.Mode} {ops : Array Oper} {Q : Exit → Act → World → Prop} {S : World → Prop} {oi : Oper} {fuel : Nat} {listed : Array Bool} {a : Act} {w : World} (i d : Nat) (v : Value)
    (h : wpAnyH P md ops Q S fuel (listed.setIfInBounds i true) { a with tmps := a.tmps.setIfInBounds d v } w)
    (hi : ops[i]? = some oi := by exact rfl) (hd : oi.dst = some d := by exact rfl) (hs : Region.noSelect ops = true := by kernel_rfl) (hf : Region.free md ops listed i = true := by kernel_rfl) (hr : (Region.ready md ops listed).contains i = true := by kernel_rfl)
    (hQ : ∀ c a w, Q (.panic c) (a.put oi.dst v) w → Q (.panic c) a w := by exact fun _ _ _ h => h) (hy : YieldsIf P ops S oi v a := by exact Or.inl ⟨by rfl, fun w' _ => by go_simp⟩) (hS : S w := by assumption) : wpAnyH P md ops Q S (fuel + 1) listed a w :=
  wpAnyH_slot d hi hd hs hf hr hQ hy hS h
theorem S3 {α : Type} : (∀ (l : List α) (i : Nat) (x : α), l.toArray.setIfInBounds i x = (l.set i x).toArray) ∧ (∀ (y : α) (l : List α) (x : α), (y :: l).set 0 x = x :: l) ∧ ∀ (y : α) (l : List α) (n : Nat) (x : α), (y :: l).set (n + 1) x = y :: l.set n x :=
  ⟨fun l i x => List.setIfInBounds_toArray l i x, fun _ _ _ => rfl, fun _ _ _ _ => rfl⟩
end Go.Proofs.YtjdcdhhbgijaoaaGreatDoor
namespace Go.Proofs.YtjdcdhhbgijaoaaGreatDoor
open Go.ChangeShapes Go.WideShapes Go.ChangeAt Go.RowKit Go.Sort

/-- is a byte a tile? -/
def tileI (c : Int) : Bool := c == 63 || smallB c
def tileB (c : UInt8) : Bool := tileI c.toNat
theorem rep_snoc {α : Type} (n : Nat) (x : α) : List.replicate (n + 1) x = List.replicate n x ++ [x] := by
  rw [List.replicate_succ']
theorem u8_at {l : List UInt8} {j : Nat} (h : j < l.length) : l.getD j 0 = l[j] := by simp [h]
/-- what a walk along a string has found so far -/
def PU (l : List UInt8) (k : Nat) : Prop := (∀ j, j < k → tileB (l.getD j 0) = true) ∧ (∀ j, j < k → 0 < j → (l.getD (j - 1) 0).toNat ≤ (l.getD j 0).toNat)
theorem PU.zero (l : List UInt8) : PU l 0 := ⟨fun j h => by omega, fun j h => by omega⟩
theorem u8_byte {s : ByteArray} {k : Nat} (h : k < s.size) : s.data.toList.getD k 0 = s[k] := by
  rw [u8_at (by simpa using h)]
  rfl
theorem PU.first {s : ByteArray} (h : 0 < s.size) (ht : tileI (s[0].toNat : Int) = true) : PU s.data.toList 1 := by
  refine ⟨fun j hj => ?_, fun j hj h0 => by omega⟩
  obtain rfl : j = 0 := by omega
  rw [u8_byte h]
  exact ht
theorem PU.step {s : ByteArray} {k : Nat} (h : PU s.data.toList (k + 1)) (hk : k + 1 < s.size) (ht : tileI (s[k + 1].toNat : Int) = true) (ho : ¬ (s[k + 1].toNat : Int) < (s[k].toNat : Int)) : PU s.data.toList (k + 1 + 1) := by
  refine ⟨fun j hj => ?_, fun j hj h0 => ?_⟩
  · by_cases e : j = k + 1
    · subst e; rw [u8_byte hk]; exact ht
    · exact h.1 j (by omega)
  · by_cases e : j = k + 1
    · subst e
      rw [Nat.add_sub_cancel, u8_byte hk, u8_byte (by omega)]
      omega
    · exact h.2 j (by omega) h0
end Go.Proofs.YtjdcdhhbgijaoaaGreatDoor

namespace Go.Proofs.YtjdcdhhbgijaoaaGreatDoor
open Go.ChangeShapes Go.WideShapes Go.ChangeAt Go.RowKit Go.Sort

end Go.Proofs.YtjdcdhhbgijaoaaGreatDoor
