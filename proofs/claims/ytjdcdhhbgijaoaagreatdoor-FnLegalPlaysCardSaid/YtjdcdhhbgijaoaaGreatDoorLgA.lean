/- Plain definitions and lemmas: tiles, piles, counts of tiles, whether one pile contains ano · Contracts: the reference's tests on tiles, piles and racks. No condition but that a length -/
import Derived.Test.YtjdcdhhbgijaoaaGreatDoorPlaP
import Derived.Test.YtjdcdhhbgijaoaaGreatDoorBrD
import Derived.Test.YtjdcdhhbgijaoaaGreatDoorVar
namespace Go.Proofs.YtjdcdhhbgijaoaaGreatDoor
open Go.ChangeShapes Go.WideShapes Go.ChangeAt Go.RowKit Go.Sort

/-- the k-th tile: the blank, then the letters -/
def tileC (k : Nat) : UInt8 := if k = 0 then 63 else UInt8.ofNat (96 + k)
theorem tileC_nat {k : Nat} (h : k < 27) : (tileC k).toNat = if k = 0 then 63 else 96 + k := by
  unfold tileC
  by_cases e : k = 0
  · rw [if_pos e, if_pos e]; rfl
  · rw [if_neg e, if_neg e, UInt8.toNat_ofNat']
    omega
theorem tileC_inj {j k : Nat} (hj : j < 27) (hk : k < 27) (h : tileC j = tileC k) : j = k := by
  have h1 := congrArg UInt8.toNat h
  rw [tileC_nat hj, tileC_nat hk] at h1
  split at h1 <;> split at h1 <;> omega
/-- is a byte a tile? -/
def tileI (c : Int) : Bool := c == 63 || smallB c
def tileB (c : UInt8) : Bool := tileI c.toNat
theorem tileB_nat (c : UInt8) : tileB c = (c.toNat == 63 || smallB c.toNat) := by
  unfold tileB tileI
  congr 1
  rw [Bool.eq_iff_iff, beq_iff_eq, beq_iff_eq]
  omega
/-- a tile's number, or -1 -/
def plI (c : UInt8) : Int := if c.toNat = 63 then 0 else if smallB c.toNat then (c.toNat : Int) - 97 + 1 else -1
theorem tile_num {c : UInt8} (h : tileB c = true) : ∃ k : Nat, k < 27 ∧ plI c = k ∧ c = tileC k := by
  rw [tileB_nat, Bool.or_eq_true, beq_iff_eq] at h
  unfold plI
  by_cases e : c.toNat = 63
  · refine ⟨0, by omega, by rw [if_pos e]; rfl, ?_⟩
    exact UInt8.toNat_inj.1 (by rw [tileC_nat (by omega), if_pos rfl, e])
  · have hs : smallB c.toNat = true := h.resolve_left e
    have hr : 97 ≤ c.toNat ∧ c.toNat ≤ 122 := by
      unfold smallB at hs
      rw [Bool.and_eq_true, decide_eq_true_eq, decide_eq_true_eq] at hs
      omega
    refine ⟨c.toNat - 96, by omega, by rw [if_neg e, if_pos hs]; omega, ?_⟩
    exact UInt8.toNat_inj.1 (by rw [tileC_nat (by omega), if_neg (by omega)]; omega)
theorem plI_neg {c : UInt8} : decide (plI c < 0) = !tileB c := by
  rw [tileB_nat]
  unfold plI
  by_cases e : c.toNat = 63
  · rw [if_pos e, e]; rfl
  · have e' : (c.toNat == 63) = false := by rw [beq_eq_false_iff_ne]; exact e
    rw [if_neg e, e', Bool.false_or]
    cases hs : smallB c.toNat with
    | true =>
      unfold smallB at hs
      rw [Bool.and_eq_true, decide_eq_true_eq, decide_eq_true_eq] at hs
      rw [if_pos rfl]
      exact decide_eq_false (by omega)
    | false => rw [if_neg (by simp)]; rfl
/-- how often the k-th tile is in a list -/
def cntT (l : List UInt8) (k : Nat) : Nat := l.count (tileC k)
theorem cntT_snoc (l : List UInt8) (c : UInt8) (k : Nat) : cntT (l ++ [c]) k = cntT l k + if c = tileC k then 1 else 0 := by
  unfold cntT
  rw [List.count_append, List.count_singleton]
  congr 1
  by_cases e : c = tileC k
  · rw [if_pos e, if_pos (by rw [e]; exact beq_self_eq_true _)]
  · rw [if_neg e, if_neg (by rw [beq_iff_eq]; exact e)]
theorem cntT_le (l : List UInt8) (k : Nat) : cntT l k ≤ l.length := List.count_le_length
/-- 27 numbers as the cells of an array -/
def cellsN (f : Nat → Int) : List Value := (List.range 27).map fun k => Value.int .i64 (f k)
theorem cellsN_len (f : Nat → Int) : (cellsN f).length = 27 := by simp [cellsN]
theorem cellsN_get (f : Nat → Int) {k : Nat} (h : k < 27) : (cellsN f)[k]? = some (.int .i64 (f k)) := by
  unfold cellsN
  rw [List.getElem?_map, List.getElem?_range h]
  rfl
theorem cellsN_set (f : Nat → Int) {i : Nat} (h : i < 27) (v : Int) : (cellsN f).set i (.int .i64 v) = cellsN fun k => if k = i then v else f k := by
  apply List.ext_getElem?
  intro j
  rw [List.getElem?_set]
  by_cases hj : j < 27
  · rw [cellsN_get f hj, cellsN_get _ hj, cellsN_len]
    by_cases e : i = j
    · subst e
      rw [if_pos rfl, if_pos h, if_pos rfl]
    · rw [if_neg e, if_neg (fun (x : j = i) => e x.symm)]
  · rw [List.getElem?_eq_none (by rw [cellsN_len]; omega)]
    rw [if_neg (by omega), List.getElem?_eq_none (by rw [cellsN_len]; omega)]
theorem cellsN_congr {f g : Nat → Int} (h : ∀ k, k < 27 → f k = g k) : cellsN f = cellsN g := by
  unfold cellsN
  exact List.map_congr_left fun k hk => by rw [h k (List.mem_range.1 hk)]
theorem cellsN_one (f : Nat → Int) : ∀ v ∈ cellsN f, v.oneCell' = true := by
  intro v hv
  obtain ⟨k, _, rfl⟩ := List.mem_map.1 hv
  rfl
theorem cellsN_zero : cellsN (fun _ => 0) = [.int .i64 0, .int .i64 0, .int .i64 0, .int .i64 0, .int .i64 0, .int .i64 0, .int .i64 0, .int .i64 0, .int .i64 0, .int .i64 0, .int .i64 0, .int .i64 0, .int .i64 0, .int .i64 0, .int .i64 0, .int .i64 0, .int .i64 0, .int .i64 0, .int .i64 0, .int .i64 0, .int .i64 0, .int .i64 0, .int .i64 0, .int .i64 0, .int .i64 0, .int .i64 0, .int .i64 0] := rfl
def pileL (f : Nat → Int) (n : Nat) : List UInt8 := (List.range n).flatMap fun k => List.replicate (f k).toNat (tileC k)
theorem pileL_zero (f : Nat → Int) : pileL f 0 = [] := rfl
theorem pileL_succ (f : Nat → Int) (n : Nat) : pileL f (n + 1) = pileL f n ++ List.replicate (f n).toNat (tileC n) := by
  unfold pileL
  rw [List.range_succ, List.flatMap_append]
  simp
theorem rep_snoc {α : Type} (n : Nat) (x : α) : List.replicate (n + 1) x = List.replicate n x ++ [x] := by
  rw [List.replicate_succ']
theorem pile_cnt (f : Nat → Int) {i : Nat} (hi : i < 27) : ∀ n, n ≤ 27 → cntT (pileL f n) i = if i < n then (f i).toNat else 0
  | 0, _ => by rw [pileL_zero, if_neg (by omega)]; rfl
  | n + 1, h => by
    rw [pileL_succ]
    unfold cntT
    rw [List.count_append]
    have ih := pile_cnt f hi n (by omega)
    unfold cntT at ih
    rw [ih, List.count_replicate]
    by_cases e : n = i
    · subst e
      have e1 : (tileC n == tileC n) = true := beq_self_eq_true _
      rw [e1]
      simp
    · have e3 : (tileC n == tileC i) = false := beq_eq_false_iff_ne.2 fun x => e (tileC_inj (by omega) hi x)
      rw [e3]
      by_cases e2 : i < n
      · have e4 : i < n + 1 := by omega
        simp [e2, e4]
      · have e4 : ¬ i < n + 1 := by omega
        simp [e2, e4]
theorem pile_tiles (f : Nat → Int) : ∀ n, n ≤ 27 → ∀ c ∈ pileL f n, tileB c = true
  | 0, _, c, h => by simp [pileL_zero] at h
  | n + 1, hn, c, h => by
    rw [pileL_succ, List.mem_append] at h
    rcases h with h | h
    · exact pile_tiles f n (by omega) c h
    · rw [(List.mem_replicate.1 h).2]
      rw [tileB_nat, tileC_nat (by omega)]
      by_cases e : n = 0
      · rw [if_pos e]; rfl
      · rw [if_neg e, Bool.or_eq_true]
        refine .inr ?_
        unfold smallB
        rw [Bool.and_eq_true, decide_eq_true_eq, decide_eq_true_eq]
        omega
theorem pile_len (f : Nat → Int) (B : Nat) (hf : ∀ k, f k ≤ B) : ∀ n, (pileL f n).length ≤ n * B
  | 0 => by rw [pileL_zero]; simp
  | n + 1 => by
    rw [pileL_succ, List.length_append, List.length_replicate]
    have := pile_len f B hf n
    have := hf n
    have e : (n + 1) * B = n * B + B := Nat.succ_mul n B
    omega

/-! ### Whether a pile contains another -/
def SortedT (l : List UInt8) : Prop := l.Pairwise fun x y => x.toNat ≤ y.toNat
/-- whether the tiles of one list are among those of another -/
def hasT (a b : List UInt8) : Bool := (List.range 27).all fun k => decide (cntT b k ≤ cntT a k)
theorem hasT_iff {a b : List UInt8} : hasT a b = true ↔ ∀ k, k < 27 → cntT b k ≤ cntT a k := by
  unfold hasT
  rw [List.all_eq_true]
  exact ⟨fun h k hk => of_decide_eq_true (h k (List.mem_range.2 hk)), fun h k hk => decide_eq_true (h k (List.mem_range.1 hk))⟩
theorem has_congr {a b b' : List UInt8} (h : ∀ k, k < 27 → cntT b k = cntT b' k) : hasT a b = hasT a b' := by
  rw [Bool.eq_iff_iff, hasT_iff, hasT_iff]
  exact ⟨fun x j hj => by rw [← h j hj]; exact x j hj, fun x j hj => by rw [h j hj]; exact x j hj⟩

/-! ### Piles and racks -/
/-- tiles in ascending order, and no more than a pile has -/
def pileOk (l : List UInt8) : Bool := decide (∀ j, j < l.length → tileB (l.getD j 0) = true) && (decide (∀ j, j < l.length → 0 < j → (l.getD (j - 1) 0).toNat ≤ (l.getD j 0).toNat) && decide (l.length ≤ 120))
theorem pileOk_iff {l : List UInt8} : pileOk l = true ↔ (∀ j, j < l.length → tileB (l.getD j 0) = true) ∧ (∀ j, j < l.length → 0 < j → (l.getD (j - 1) 0).toNat ≤ (l.getD j 0).toNat) ∧ l.length ≤ 120 := by
  unfold pileOk
  rw [Bool.and_eq_true, Bool.and_eq_true, decide_eq_true_eq, decide_eq_true_eq, decide_eq_true_eq]
theorem u8_at {l : List UInt8} {j : Nat} (h : j < l.length) : l.getD j 0 = l[j] := by simp [h]
/-- what a walk along a string has found so far -/
def PU (l : List UInt8) (k : Nat) : Prop := (∀ j, j < k → tileB (l.getD j 0) = true) ∧ (∀ j, j < k → 0 < j → (l.getD (j - 1) 0).toNat ≤ (l.getD j 0).toNat)
theorem PU.zero (l : List UInt8) : PU l 0 := ⟨fun j h => by omega, fun j h => by omega⟩
theorem u8_byte {s : ByteArray} {k : Nat} (h : k < s.size) : s.data.toList.getD k 0 = s[k] := by
  rw [u8_at (by simpa using h)]
  rfl
theorem PU.first {s : ByteArray} (h : 0 < s.size) (ht : tileI (s[0].toNat : Int) = true) : PU s.data.toList 1 := by
  refine ⟨fun j hj => ?_, fun j hj h0 => by omega⟩
  obtain rfl : j = 0 := by omega
  rw [u8_byte h]
  exact ht
theorem PU.step {s : ByteArray} {k : Nat} (h : PU s.data.toList (k + 1)) (hk : k + 1 < s.size) (ht : tileI (s[k + 1].toNat : Int) = true) (ho : ¬ (s[k + 1].toNat : Int) < (s[k].toNat : Int)) : PU s.data.toList (k + 1 + 1) := by
  refine ⟨fun j hj => ?_, fun j hj h0 => ?_⟩
  · by_cases e : j = k + 1
    · subst e; rw [u8_byte hk]; exact ht
    · exact h.1 j (by omega)
  · by_cases e : j = k + 1
    · subst e
      rw [Nat.add_sub_cancel, u8_byte hk, u8_byte (by omega)]
      omega
    · exact h.2 j (by omega) h0
theorem pile_no_order {s : ByteArray} {k : Nat} (hk : k + 1 < s.size) (ho : (s[k + 1].toNat : Int) < (s[k].toNat : Int)) : pileOk s.data.toList = false := by
  rw [← Bool.not_eq_true]
  intro h
  have := (pileOk_iff.1 h).2.1 (k + 1) (by simpa using hk) (by omega)
  rw [Nat.add_sub_cancel, u8_byte hk, u8_byte (by omega)] at this
  omega
theorem pile_long {s : ByteArray} (h : ¬ s.size ≤ 120) : pileOk s.data.toList = false := by
  have hl : s.data.toList.length = s.size := by simp
  rw [← Bool.not_eq_true]
  intro x
  have := (pileOk_iff.1 x).2.2
  omega
def rackOk (l : List UInt8) : Bool := pileOk l && decide (l.length ≤ 7)
theorem rack_pile {l : List UInt8} (h : rackOk l = true) : pileOk l = true ∧ l.length ≤ 7 := by
  unfold rackOk at h
  rwa [Bool.and_eq_true, decide_eq_true_eq] at h

/-! ### Sorting by insertion -/
theorem sort_ins {R : List UInt8} {c : UInt8} {k : Nat} (hs : SortedT R) (hk : k ≤ R.length) (hd : ∀ x ∈ R.drop k, c.toNat < x.toNat) (hl : ∀ (h : 0 < k), (R[k - 1]'(by omega)).toNat ≤ c.toNat) : SortedT (R.take k ++ c :: R.drop k) := by
  have h0 : SortedT (R.take k ++ R.drop k) := by rw [List.take_append_drop]; exact hs
  unfold SortedT at h0 ⊢
  rw [List.pairwise_append] at h0 ⊢
  refine ⟨h0.1, List.pairwise_cons.2 ⟨fun x hx => Nat.le_of_lt (hd x hx), h0.2.1⟩, fun x hx y hy => ?_⟩
  rcases List.mem_cons.1 hy with rfl | hy
  · obtain ⟨i, hi, rfl⟩ := List.getElem_of_mem hx
    have hik : i < k := by rw [List.length_take] at hi; omega
    rw [List.getElem_take]
    have h1 := hl (by omega)
    by_cases e : i = k - 1
    · subst e; exact h1
    · have := (List.pairwise_iff_getElem.1 hs) i (k - 1) (by omega) (by omega) (by omega)
      omega
  · exact h0.2.2 x hx y hy
theorem perm_ins {R L : List UInt8} {c : UInt8} {k : Nat} (h : R.Perm L) : (R.take k ++ c :: R.drop k).Perm (L ++ [c]) := by
  have h1 : (R.take k ++ c :: R.drop k).Perm (c :: (R.take k ++ R.drop k)) := List.perm_middle
  rw [List.take_append_drop] at h1
  exact (h1.trans (h.cons c)).trans (List.perm_append_singleton c L).symm
theorem drop_ins {R : List UInt8} {k : Nat} (hk : k < R.length) (P : UInt8 → Prop) (h : ∀ x ∈ R.drop (k + 1), P x) (h2 : P R[k]) : ∀ x ∈ R.drop k, P x := by
  rw [List.drop_eq_getElem_cons hk]
  intro x hx
  rcases List.mem_cons.1 hx with rfl | hx
  · exact h2
  · exact h x hx
theorem cnt_perm {a b : List UInt8} (h : a.Perm b) (k : Nat) : cntT a k = cntT b k := h.count_eq _
end Go.Proofs.YtjdcdhhbgijaoaaGreatDoor

namespace Go.Proofs.YtjdcdhhbgijaoaaGreatDoor
open Go.ChangeShapes Go.WideShapes Go.ChangeAt Go.RowKit Go.Sort

def cntI (l : List UInt8) : Nat → Int := fun k => (cntT l k : Int)
theorem tileC_mono {j k : Nat} (h : j ≤ k) (hk : k < 27) : (tileC j).toNat ≤ (tileC k).toNat := by
  rw [tileC_nat (by omega), tileC_nat hk]
  split <;> split <;> omega
theorem pile_mem (f : Nat → Int) : ∀ n, ∀ c ∈ pileL f n, ∃ k, k < n ∧ c = tileC k
  | 0, c, h => by simp [pileL_zero] at h
  | n + 1, c, h => by
    rw [pileL_succ, List.mem_append] at h
    rcases h with h | h
    · obtain ⟨k, h1, h2⟩ := pile_mem f n c h
      exact ⟨k, by omega, h2⟩
    · exact ⟨n, by omega, (List.mem_replicate.1 h).2⟩
theorem sorted_rep (n : Nat) (c : UInt8) : SortedT (List.replicate n c) := by
  unfold SortedT
  rw [List.pairwise_iff_getElem]
  intro i j hi hj _
  rw [List.getElem_replicate, List.getElem_replicate]
  exact Nat.le_refl _
theorem pile_sort (f : Nat → Int) : ∀ n, n ≤ 27 → SortedT (pileL f n)
  | 0, _ => by rw [pileL_zero]; exact List.Pairwise.nil
  | n + 1, hn => by
    rw [pileL_succ]
    unfold SortedT
    rw [List.pairwise_append]
    refine ⟨pile_sort f n (by omega), sorted_rep _ _, fun x hx y hy => ?_⟩
    obtain ⟨k, h1, rfl⟩ := pile_mem f n x hx
    rw [(List.mem_replicate.1 hy).2]
    exact tileC_mono (by omega) (by omega)
theorem pile_perm {l : List UInt8} (h : l.all tileB = true) : (pileL (cntI l) 27).Perm l := by
  rw [List.perm_iff_count]
  intro c
  cases hc : tileB c with
  | true =>
    obtain ⟨k, hk, _, rfl⟩ := tile_num hc
    have h1 := pile_cnt (cntI l) hk 27 (Nat.le_refl _)
    rw [if_pos hk] at h1
    unfold cntT at h1
    rw [h1]
    unfold cntI cntT
    exact Int.toNat_natCast _
  | false =>
    have h1 : c ∉ pileL (cntI l) 27 := fun hm => by
      have := pile_tiles (cntI l) 27 (Nat.le_refl _) c hm
      rw [hc] at this
      cases this
    have h2 : c ∉ l := fun hm => by
      have := (List.all_eq_true.1 h) c hm
      rw [hc] at this
      cases this
    rw [List.count_eq_zero.2 h1, List.count_eq_zero.2 h2]
theorem sorted_eq : ∀ {a b : List UInt8}, SortedT a → SortedT b → a.Perm b → a = b
  | [], b, _, _, h => by rw [List.nil_perm.1 h]
  | x :: a, [], _, _, h => by cases h.eq_nil
  | x :: a, y :: b, ha, hb, h => by
    have ha1 := List.pairwise_cons.1 ha
    have hb1 := List.pairwise_cons.1 hb
    have e : x = y := by
      have hx : x ∈ y :: b := h.mem_iff.1 List.mem_cons_self
      have hy : y ∈ x :: a := h.mem_iff.2 List.mem_cons_self
      rcases List.mem_cons.1 hx with e | hx
      · exact e
      rcases List.mem_cons.1 hy with e | hy
      · exact e.symm
      have := ha1.1 y hy
      have := hb1.1 x hx
      exact UInt8.toNat_inj.1 (by omega)
    subst e
    rw [sorted_eq ha1.2 hb1.2 (List.Perm.cons_inv h)]
/-- the pile of a list of tiles -/
def srtL (l : List UInt8) : List UInt8 := pileL (cntI l) 27
theorem srt_perm {l : List UInt8} (h : l.all tileB = true) : (srtL l).Perm l := pile_perm h
theorem srt_sort (l : List UInt8) : SortedT (srtL l) := pile_sort _ 27 (Nat.le_refl _)
theorem srt_eq {l R : List UInt8} (h : l.all tileB = true) (hs : SortedT R) (hp : R.Perm l) : R = srtL l :=
  sorted_eq hs (srt_sort l) (hp.trans (srt_perm h).symm)
theorem srt_len {l : List UInt8} (h : l.all tileB = true) : (srtL l).length = l.length := (srt_perm h).length_eq
/-- the counts that are left -/
def subI (a b : List UInt8) : Nat → Int := fun k => cntI a k - cntI b k
/-- what is left of a pile, in order; none if it has not all -/
def restL (a b : List UInt8) : List UInt8 := if hasT a b then pileL (subI a b) 27 else []
theorem has_cnt {a b : List UInt8} : hasT a b = true ↔ ∀ k, k < 27 → 0 ≤ subI a b k := by
  rw [hasT_iff]
  unfold subI cntI
  exact ⟨fun h k hk => by have := h k hk; omega, fun h k hk => by have := h k hk; omega⟩

/-! ### The tiles of letters -/
def tlC (c : UInt8) : UInt8 := if capB (c.toNat : Int) then 63 else c
theorem tlC_cap {c : UInt8} (h : capB (c.toNat : Int) = true) : ((tlC c).toNat : Int) = 63 := by unfold tlC; rw [if_pos h]; rfl
theorem tlC_not {c : UInt8} (h : capB (c.toNat : Int) = false) : tlC c = c := by unfold tlC; rw [h]; rfl
theorem tile_of_let {c : UInt8} (h : letB c.toNat = true) : tileB (tlC c) = true := by
  cases hc : capB (c.toNat : Int) with
  | true =>
    have e : tlC c = 63 := by unfold tlC; rw [if_pos hc]
    rw [e]; rfl
  | false =>
    rw [tlC_not hc]
    unfold tileB tileI
    unfold letB at h
    rw [hc] at h
    rw [Bool.or_eq_true]
    exact .inr (by simpa using h)
end Go.Proofs.YtjdcdhhbgijaoaaGreatDoor
namespace Go.Proofs.YtjdcdhhbgijaoaaGreatDoor
open Go.ChangeShapes Go.WideShapes Go.ChangeAt Go.RowKit Go.Sort

theorem rack_long {s : ByteArray} (h : ¬ s.size ≤ 7) : rackOk s.data.toList = false := by
  have hl : s.data.toList.length = s.size := by simp
  unfold rackOk
  rw [hl, decide_eq_false h, Bool.and_false]
end Go.Proofs.YtjdcdhhbgijaoaaGreatDoor

namespace Go.Proofs.YtjdcdhhbgijaoaaGreatDoor
open Go.ChangeShapes Go.WideShapes Go.ChangeAt Go.RowKit Go.Sort

theorem plI_63 {c : UInt8} (h : (c.toNat : Int) = 63) : plI c = 0 := by unfold plI; rw [if_pos (by omega)]
theorem plI_small {c : UInt8} (h : ¬ (c.toNat : Int) = 63) (hs : smallB c.toNat = true) : plI c = (c.toNat : Int) - 97 + 1 ∧ 97 ≤ (c.toNat : Int) ∧ (c.toNat : Int) ≤ 122 := by
  refine ⟨by unfold plI; rw [if_neg (by omega), if_pos hs], ?_⟩
  unfold smallB at hs
  rwa [Bool.and_eq_true, decide_eq_true_eq, decide_eq_true_eq] at hs
theorem plI_none {c : UInt8} (h : ¬ (c.toNat : Int) = 63) (hs : smallB c.toNat = false) : plI c = -1 := by
  unfold plI; rw [if_neg (by omega), if_neg (by rw [hs]; decide)]
set_option maxHeartbeats 1000000 in
theorem place_any (c : UInt8) (w : World) : Calls Tryz.prog 208 #[.int .u8 (c.toNat : Int)] w fun e w' => e = .returned (.int .i64 (plI c)) ∧ w = w' := by
  by_cases h : (c.toNat : Int) = 63
  · have HN := Lib.hid (plI_63 h)
    go_enter Tryz.func208, Tryz.ntmps208
    go_wp2
    go_ret
    exact ⟨ret_int HN.out.symm, rfl⟩
  · cases hs : smallB (c.toNat : Int) with
    | true =>
      obtain ⟨h1, h2, h3⟩ := plI_small h hs
      have HN := Lib.hid h1
      clear h1
      go_enter Tryz.func208, Tryz.ntmps208
      go_wp2_with fail
      refine (small_any _ _).mono ?_
      rintro e w' ⟨rfl, rfl⟩
      rw [hs]
      clear hs
      go_wp2
      go_ret
      exact ⟨ret_int (by rw [HN.out]), rfl⟩
    | false =>
      have HN := Lib.hid (plI_none h hs)
      go_enter Tryz.func208, Tryz.ntmps208
      go_wp2_with fail
      refine (small_any _ _).mono ?_
      rintro e w' ⟨rfl, rfl⟩
      rw [hs]
      clear hs
      go_wp2
      go_ret
      exact ⟨ret_int HN.out.symm, rfl⟩
theorem tileAt_any (k : Nat) (hk : k < 27) (w : World) : Calls Tryz.prog 255 #[.int .i64 (k : Int)] w fun e w' => e = .returned (.int .u8 ((tileC k).toNat : Int)) ∧ w = w' := by
  have HN := Lib.hid (tileC_nat hk)
  generalize (tileC k).toNat = t at *
  by_cases h : k = 0
  · subst h
    go_enter Tryz.func255, Tryz.ntmps255
    go_wp2
    go_ret
    exact ⟨ret_int (by rw [HN.out]; rfl), rfl⟩
  · have h1 : ¬ (k : Int) = 0 := by omega
    have h2 : ((97 + (k : Int) - 1) % 256) = 96 + (k : Int) := by omega
    go_enter Tryz.func255, Tryz.ntmps255
    go_wp2
    go_ret
    exact ⟨ret_int (by rw [HN.out, if_neg h]; omega), rfl⟩
set_option maxHeartbeats 2000000 in
theorem onlyTiles_any (s : ByteArray) (w : World) (hs : s.size ≤ 9223372036854775807) : Calls Tryz.prog 210 #[.string s] w fun e w' => e = .returned (.bool (s.data.toList.all tileB)) ∧ w = w' := by
  have HNO := Lib.hid (fun k (h : k < s.size) (hp : tileI (s[k].toNat : Int) = false) => all_get (s := s) (p := tileB) (k := k) h hp)
  have HEND := Lib.hid (fun k (h : s.size ≤ k) (hp : upTo tileI s k) => all_end (s := s) (p := tileB) (k := k) h hp)
  have HNG := Lib.hid (fun k (h : k < s.size) => plI_neg (c := s[k]))
  generalize s.data.toList.all tileB = res at *
  go_enter Tryz.func210, Tryz.ntmps210
  go_wp2
  go_loop [3] (fun i => ∃ k : Nat, k ≤ s.size ∧ i = .int .i64 k ∧ Hid (upTo tileI s k)) (fun i => s.size - (intOf i).toNat)
  case atStart => exact ⟨0, Nat.zero_le _, rfl, Lib.hid (upTo.zero _ _)⟩
  case round =>
    obtain ⟨k, hk, rfl, HA⟩ := hrel
    by_cases hlt : k < s.size
    · have hng := HNG.out k hlt
      cases h1 : tileI (s[k].toNat : Int) with
      | true =>
        have HN : Hid (upTo tileI s (k + 1)) := Lib.hid (all_step hlt HA.out h1)
        have hn : decide (plI s[k] < 0) = false := by rw [hng]; unfold tileB; rw [h1]; rfl
        clear hng h1
        go_wp2_with fail
        refine (place_any _ _).mono ?_
        rintro e w' ⟨rfl, rfl⟩
        generalize plI s[k] = v at *
        have hn2 : ¬ v < 0 := of_decide_eq_false hn
        clear hn
        go_wp2
        go_round
        case rel => exact ⟨k + 1, by omega, by go_num, HN⟩
        case measure => simp [intOf]; omega
      | false =>
        have HN : Hid (res = false) := Lib.hid (HNO.out k hlt h1)
        have hn : decide (plI s[k] < 0) = true := by rw [hng]; unfold tileB; rw [h1]; rfl
        clear hng h1
        go_wp2_with fail
        refine (place_any _ _).mono ?_
        rintro e w' ⟨rfl, rfl⟩
        generalize plI s[k] = v at *
        have hn2 : v < 0 := of_decide_eq_true hn
        clear hn
        go_wp2
        go_ret
        exact ⟨ret_bool HN.out.symm, rfl⟩
    · have HN : Hid (res = true) := Lib.hid (HEND.out k (by omega) HA.out)
      go_wp2
      go_ret
      exact ⟨ret_bool HN.out.symm, rfl⟩
/-! ### The program's piles -/
/-- ascending so far -/
def UO (l : List UInt8) (k : Nat) : Prop := ∀ j, j < k → 0 < j → (l.getD (j - 1) 0).toNat ≤ (l.getD j 0).toNat
theorem UO.one (l : List UInt8) : UO l 1 := fun j h h0 => by omega
theorem UO.step {s : ByteArray} {k : Nat} (h : UO s.data.toList (k + 1)) (hk : k + 1 < s.size) (ho : ¬ (s[k].toNat : Int) > (s[k + 1].toNat : Int)) : UO s.data.toList (k + 1 + 1) := by
  intro j hj h0
  by_cases e : j = k + 1
  · subst e
    rw [Nat.add_sub_cancel, u8_byte hk, u8_byte (by omega)]
    omega
  · exact h j (by omega) h0
theorem pile_yes {s : ByteArray} {k : Nat} (hl : s.size ≤ 120) (ht : s.data.toList.all tileB = true) (hk : s.size ≤ k) (h : UO s.data.toList k) : pileOk s.data.toList = true := by
  have hl2 : s.data.toList.length = s.size := by simp
  rw [pileOk_iff, hl2]
  refine ⟨fun j hj => ?_, fun j hj => h j (by omega), hl⟩
  rw [u8_at (by rw [hl2]; exact hj)]
  exact (List.all_eq_true.1 ht) _ (List.getElem_mem _)
theorem pile_no {s : ByteArray} (ht : s.data.toList.all tileB = false) : pileOk s.data.toList = false := by
  rw [← Bool.not_eq_true]
  intro h
  have : s.data.toList.all tileB = true := by
    rw [List.all_eq_true]
    intro c hc
    obtain ⟨j, hj, rfl⟩ := List.getElem_of_mem hc
    have := (pileOk_iff.1 h).1 j hj
    rwa [u8_at hj] at this
  rw [this] at ht
  cases ht
set_option maxRecDepth 100000 in
set_option maxHeartbeats 4000000 in
theorem ValidPile_any (s : ByteArray) (w : World) (hs : s.size ≤ 9223372036854775807) : Calls Tryz.prog 127 #[.string s] w fun e w' => e = .returned (.bool (pileOk s.data.toList)) ∧ Drew w w' := by
  by_cases h1 : s.size ≤ 120
  · cases h2 : s.data.toList.all tileB with
    | false =>
      have HN := Lib.hid (pile_no h2)
      go_enter Tryz.func127, Tryz.ntmps127
      go_wp2_with fail
      refine (onlyTiles_any s _ hs).mono ?_
      rintro e w' ⟨rfl, rfl⟩
      rw [h2]
      clear h2
      go_wp2
      go_ret
      exact ⟨ret_bool HN.out.symm, Drew.refl _⟩
    | true =>
      have HNO := Lib.hid (fun k (h : k + 1 < s.size) ho => pile_no_order (s := s) (k := k) h ho)
      have HEND := Lib.hid (fun k (h : s.size ≤ k) hp => pile_yes (s := s) (k := k) h1 h2 h hp)
      generalize pileOk s.data.toList = res at *
      go_enter Tryz.func127, Tryz.ntmps127
      go_wp2_with fail
      refine (onlyTiles_any s _ hs).mono ?_
      rintro e w' ⟨rfl, rfl⟩
      rw [h2]
      clear h2
      go_wp2
      go_loopw [3] (fun i wr => ∃ k : Nat, 1 ≤ k ∧ (k ≤ s.size ∨ k = 1) ∧ i = .int .i64 (k : Int) ∧ Hid (UO s.data.toList k) ∧ Drew w wr) (fun i _ => s.size + 1 - (intOf i).toNat)
      case atStart => exact ⟨1, Nat.le_refl _, .inr rfl, rfl, Lib.hid (UO.one _), Drew.refl _⟩
      case round =>
        obtain ⟨k, hk1, hk, rfl, HA, hd⟩ := hrel
        by_cases hlt : k < s.size
        · have hj0 : (1 : Int) ≤ (k : Int) := by omega
          have hj1 : (k : Int) - 1 < (s.size : Int) := by omega
          have hj2 : k - 1 < s.size := by omega
          by_cases ho : (s[k - 1].toNat : Int) > (s[k].toNat : Int)
          · have HN : Hid (res = false) := Lib.hid (by obtain ⟨j, rfl⟩ : ∃ j, k = j + 1 := ⟨k - 1, by omega⟩; exact HNO.out j hlt ho)
            go_wp2_with fail
            go_quiet (fail)
            go_wp2
            go_ret
            exact ⟨ret_bool HN.out.symm, hd.drewN _⟩
          · have HN : Hid (UO s.data.toList (k + 1)) := Lib.hid (by obtain ⟨j, rfl⟩ : ∃ j, k = j + 1 := ⟨k - 1, by omega⟩; exact UO.step HA.out hlt ho)
            go_wp2_with fail
            go_quiet (fail)
            go_wp2
            go_roundw
            case rel => exact ⟨k + 1, by omega, .inl (by omega), by go_num, HN, hd.drewN _⟩
            case measure => simp [intOf]; omega
        · have HN : Hid (res = true) := Lib.hid (HEND.out k (by omega) HA.out)
          go_wp2
          go_ret
          exact ⟨ret_bool HN.out.symm, hd⟩
  · have HN := Lib.hid (pile_long h1)
    go_enter Tryz.func127, Tryz.ntmps127
    go_wp2
    go_ret
    exact ⟨ret_bool HN.out.symm, Drew.refl _⟩
theorem ValidRack_any (s : ByteArray) (w : World) (hs : s.size ≤ 9223372036854775807) : Calls Tryz.prog 72 #[.string s] w fun e w' => e = .returned (.bool (rackOk s.data.toList)) ∧ Drew w w' := by
  by_cases h1 : s.size ≤ 7
  · have HN : Hid (rackOk s.data.toList = pileOk s.data.toList) := Lib.hid (by
      unfold rackOk
      rw [decide_eq_true (by simpa using h1), Bool.and_true])
    go_enter Tryz.func72, Tryz.ntmps72
    go_wp2_with fail
    refine (ValidPile_any s _ hs).mono ?_
    rintro e w' ⟨rfl, hd⟩
    go_wp2
    go_ret
    exact ⟨ret_bool HN.out.symm, hd⟩
  · have HN := Lib.hid (rack_long h1)
    go_enter Tryz.func72, Tryz.ntmps72
    go_wp2
    go_ret
    exact ⟨ret_bool HN.out.symm, Drew.refl _⟩
end Go.Proofs.YtjdcdhhbgijaoaaGreatDoor

namespace Go.Proofs.YtjdcdhhbgijaoaaGreatDoor
open Go.ChangeShapes Go.WideShapes Go.ChangeAt Go.RowKit Go.Sort

/-! ### Rows of bytes that were appended to -/
def insR (R : List UInt8) (k : Nat) (z : UInt8) : List UInt8 := R.take k ++ z :: R.drop k
theorem insR_len (R : List UInt8) (k : Nat) (z : UInt8) : (insR R k z).length = R.length + 1 := by
  unfold insR
  rw [List.length_append, List.length_cons, List.length_take, List.length_drop]
  omega
theorem insR_end (R : List UInt8) (z : UInt8) {k : Nat} (hk : k = R.length) : insR R k z = R ++ [z] := by
  subst hk
  unfold insR
  rw [List.take_length, List.drop_length]
theorem insR_set {R : List UInt8} {k : Nat} (hk : k ≤ R.length) (z c : UInt8) : (insR R k z).set k c = insR R k c := by
  unfold insR
  have hl : (R.take k).length = k := by rw [List.length_take]; omega
  rw [List.set_append_right _ _ (by omega), hl, Nat.sub_self]
  rfl
theorem insR_get {R : List UInt8} {i : Nat} (hi : i < R.length) (z : UInt8) : (insR R (i + 1) z)[i]? = some R[i] := by
  unfold insR
  rw [List.getElem?_append_left (by rw [List.length_take]; omega), List.getElem?_take_of_lt (by omega), List.getElem?_eq_getElem hi]
theorem insR_move {R : List UInt8} {i : Nat} (hi : i < R.length) : insR R (i + 1) R[i] = insR R i R[i] := by
  unfold insR
  rw [List.take_succ_eq_append_getElem hi, List.append_assoc, List.singleton_append, ← List.drop_eq_getElem_cons hi]
theorem own_byteAt {w : World} {base g n cap : Nat} {l : List UInt8} (h : w.ownsRow base 5 1 (.slice (some ⟨g, 0, none⟩) n cap) n (l.flatMap U8.enc)) {i : Nat} (hi : i < n) {c : UInt8} (hc : l[i]? = some c) : w.cell? ⟨g, i, none⟩ = some (.int .u8 (c.toNat : Int)) := by
  rw [h.cellAt i (by omega), u8_flat, List.getElem?_map, hc]
  rfl
theorem own_byteSet {w : World} {base g n cap : Nat} {l : List UInt8} (h : w.ownsRow base 5 1 (.slice (some ⟨g, 0, none⟩) n cap) n (l.flatMap U8.enc)) (i : Nat) (c : UInt8) :
    (w.setCell ⟨g, i, none⟩ (.int .u8 (c.toNat : Int))).ownsRow base 5 1 (.slice (some ⟨g, 0, none⟩) n cap) n ((l.set i c).flatMap U8.enc) ∧ w.grownBy (w.setCell ⟨g, i, none⟩ (.int .u8 (c.toNat : Int))) (some g) := by
  obtain ⟨h1, h2⟩ := h.stored i (.int .u8 (c.toNat : Int))
  refine ⟨?_, h2⟩
  rw [u8_flat, List.map_set, ← u8_flat]
  exact h1

/-- a sorted text with the same tiles -/
def SortPost (w : World) (l : List UInt8) (e : Ending) (w' : World) : Prop :=
  ∃ R : List UInt8, e = .returned (.string (mkB R)) ∧ SortedT R ∧ R.Perm l ∧ Below w.heap.size w w'
theorem insR_at {R : List UInt8} {k : Nat} (hk : k ≤ R.length) (z : UInt8) : (insR R k z)[k]? = some z := by
  unfold insR
  rw [List.getElem?_append_right (by rw [List.length_take]; omega), List.length_take, Nat.min_eq_left hk, Nat.sub_self]
  rfl
set_option maxRecDepth 100000 in
set_option maxHeartbeats 8000000 in
theorem l03Sort_any (s : ByteArray) (w : World) (hs : s.size ≤ 1048576) : Calls Tryz.prog 205 #[.string s] w (SortPost w s.data.toList) := by
  obtain ⟨i0, hi0, hi1, hi2, hi3⟩ := info_parts infoByte
  have hd0 : Below w.heap.size w (w.alloc (.cells #[] 5)) := (Below.refl _ _).alloc (Nat.le_refl _) _
  have HO : Hid ((w.alloc (.cells #[] 5)).ownsRow w.heap.size 5 1 (.slice (some ⟨w.heap.size, 0, none⟩) 0 0) 0 (([] : List UInt8).flatMap U8.enc)) := Lib.hid (
    World.ownsRow_made (base := w.heap.size) (e := 5) (size := 1) w #[] 0 (Nat.le_refl _) (by unfold maxLen; omega) rfl)
  have hb := hd0
  clear hd0
  go_enter Tryz.func205, Tryz.ntmps205
  go_wp2_with fail
  go_loopw [3, 4] (fun ov iv wr => ∃ (k g1 cap : Nat) (R : List UInt8), k ≤ s.size ∧ iv = .int .i64 k ∧ ov = .slice (some ⟨g1, 0, none⟩) k cap ∧ Hid (R.length = k) ∧ Hid (SortedT R) ∧ Hid (R.Perm (s.data.toList.take k)) ∧ Hid (wr.ownsRow w.heap.size 5 1 (.slice (some ⟨g1, 0, none⟩) k cap) k (R.flatMap U8.enc)) ∧ Below w.heap.size w wr) (fun _ iv _ => s.size - (intOf iv).toNat)
  case atStart => exact ⟨0, _, 0, [], Nat.zero_le _, rfl, rfl, Lib.hid rfl, Lib.hid List.Pairwise.nil, Lib.hid (List.Perm.refl _), HO, hb⟩
  case round =>
    clear HO hb
    obtain ⟨k, g1, cap, R, hk, rfl, rfl, HRL, HRS, HRP, HO, hb⟩ := hrel
    by_cases hk2 : k < s.size
    · have hz2 := hb.size
      have hx : Below wr.heap.size wr (wr.alloc (.cells #[.int .u8 ((s[k].toNat : Int))] 5)) := (Below.refl _ _).alloc (Nat.le_refl _) _
      have KN := Lib.hid (new_byte wr (s[k]) 5)
      replace HO := Lib.hid (own_below HO.out hx)
      replace hb := hb.trans (hx.mono hb.size)
      have HSP : Hid (∀ j, (insR R j s[k]).Perm (s.data.toList.take (k + 1))) := Lib.hid (fun j => by
        rw [show s.data.toList.take (k + 1) = s.data.toList.take k ++ [s[k]] from List.take_succ_eq_append_getElem (by simpa using hk2)]
        exact perm_ins HRP.out)
      go_wp2_with (at_builtin; go_must (refine wpList_append_lies _ rfl (.tmp 15) (.tmp 19) 22 rfl w.heap.size 5 i0 _ 1 1 Tryz.underlying22 hi0 hi1 hi2 hi3 rfl (by decide) _ k (R.flatMap U8.enc) (by rfl) HO.out ⟨wr.heap.size, 0, none⟩ 1 1 (U8.enc (s[k])) (by rfl) rfl KN.out (u8_one1 (s[k])) (by decide) ?c1 ?c2 ?c3 _ rfl ?_))
      case c1 => unfold maxLen; omega
      case c2 => omega
      case c3 => (first | omega | (simp only [World.size_alloc]; omega))
      intro g7 cap7 w7 hown hgr hwh hlt7
      replace hb := hb.grown hgr hb.size (fun q e => by have := (HO.out.lt q e).1; omega)
      replace HO : Hid (w7.ownsRow w.heap.size 5 1 (.slice (some ⟨g7, 0, none⟩) (k + 1) cap7) (k + 1) ((insR R k s[k]).flatMap U8.enc)) := Lib.hid (by rw [insR_end R _ HRL.out.symm, snoc_flat U8.enc]; exact hown)
      have hg7 : w.heap.size ≤ g7 := (HO.out.lt g7 rfl).1
      clear hown hgr hwh KN hlt7 HRP hz2 hx
      go_wp2
      go_loopw [5] (fun jv wr => ∃ (j : Nat) (z : UInt8), j ≤ k ∧ jv = .int .i64 j ∧ Hid (∀ x ∈ R.drop j, s[k].toNat < x.toNat) ∧ Hid (wr.ownsRow w.heap.size 5 1 (.slice (some ⟨g7, 0, none⟩) (k + 1) cap7) (k + 1) ((insR R j z).flatMap U8.enc)) ∧ Below w.heap.size w wr) (fun jv _ => (intOf jv).toNat)
      case atStart => exact ⟨k, s[k], Nat.le_refl _, rfl, Lib.hid (fun x hx => by rw [List.drop_of_length_le (by rw [HRL.out]; exact Nat.le_refl _)] at hx; cases hx), HO, hb⟩
      case round =>
        clear HO hb
        obtain ⟨j, z, hj, rfl, HD, HO, hb⟩ := hrel
        match j, hj, HD, HO with
        | 0, hj, HD, HO =>
          have HSO : Hid (SortedT (insR R 0 s[k])) := Lib.hid (sort_ins HRS.out (Nat.zero_le _) HD.out (fun h => by omega))
          go_wp2_with fail
          go_quiet (fail)
          have hd : Below wr.heap.size wr (wr.drewN nq) := (Drew.drewN (Drew.refl _) nq).below _
          replace hb := hb.trans (hd.mono hb.size)
          replace HO := Lib.hid (own_below HO.out hd)
          generalize wr.drewN nq = wa at *
          obtain ⟨o1, k1⟩ := own_byteSet HO.out (0) s[k]
          have HO7 : Hid ((wa.setCell ⟨g7, 0, none⟩ (.int .u8 (s[k].toNat : Int))).ownsRow w.heap.size 5 1 (.slice (some ⟨g7, 0, none⟩) (k + 1) cap7) (k + 1) ((insR R (0) s[k]).flatMap U8.enc)) := Lib.hid (by rw [← insR_set (by rw [HRL.out]; omega) z s[k]]; exact o1)
          have hb7 : Below w.heap.size w (wa.setCell ⟨g7, 0, none⟩ (.int .u8 (s[k].toNat : Int))) := hb.grown k1 hb.size (fun q h => by cases h; exact hg7)
          have c0 : wa.cell? ⟨g7, 0, none⟩ = some (.int .u8 (z.toNat : Int)) := own_byteAt HO.out (by omega) (insR_at (by rw [HRL.out]; omega) z)
          have f0 := HO.out.frozenAt (0)
          clear o1 k1 hd HO hb
          go_wp2
          go_roundw
          case rel => exact ⟨k + 1, g7, cap7, insR R (0) s[k], by omega, by go_num, rfl, Lib.hid (by rw [insR_len, HRL.out]), HSO, Lib.hid (HSP.out _), HO7, hb7⟩
          case measure => simp [intOf]; omega
        | i + 1, hj, HD, HO =>
          have hir : i < R.length := by rw [HRL.out]; omega
          have hj1 : ((i + 1 : Nat) : Int) - 1 = (i : Int) := by omega
          have hj2 : (0 : Int) < ((i + 1 : Nat) : Int) := by omega
          have r0 : wr.cell? ⟨g7, i, none⟩ = some (.int .u8 (R[i].toNat : Int)) := own_byteAt HO.out (by omega) (insR_get hir z)
          by_cases hgt : (R[i].toNat : Int) > (s[k].toNat : Int)
          · have HD2 : Hid (∀ x ∈ R.drop i, s[k].toNat < x.toNat) := Lib.hid (drop_ins hir _ HD.out (by omega))
            go_wp2_with fail
            go_quiet (fail)
            have hd : Below wr.heap.size wr (wr.drewN nq) := (Drew.drewN (Drew.refl _) nq).below _
            replace hb := hb.trans (hd.mono hb.size)
            replace HO := Lib.hid (own_below HO.out hd)
            replace r0 := cell_kept r0 hd
            generalize wr.drewN nq = wa at *
            obtain ⟨o1, k1⟩ := own_byteSet HO.out (i + 1) R[i]
            have HO7 : Hid ((wa.setCell ⟨g7, i + 1, none⟩ (.int .u8 (R[i].toNat : Int))).ownsRow w.heap.size 5 1 (.slice (some ⟨g7, 0, none⟩) (k + 1) cap7) (k + 1) ((insR R i R[i]).flatMap U8.enc)) := Lib.hid (by rw [← insR_move hir, ← insR_set (by omega) z R[i]]; exact o1)
            have hb7 : Below w.heap.size w (wa.setCell ⟨g7, i + 1, none⟩ (.int .u8 (R[i].toNat : Int))) := hb.grown k1 hb.size (fun q h => by cases h; exact hg7)
            have c0 : wa.cell? ⟨g7, i + 1, none⟩ = some (.int .u8 (z.toNat : Int)) := own_byteAt HO.out (by omega) (insR_at (by omega) z)
            have f0 := HO.out.frozenAt (i + 1)
            clear o1 k1 hd HO hb
            generalize R[i] = y at *
            go_wp2
            go_roundw
            case rel => exact ⟨i, y, by omega, by go_num, HD2, HO7, hb7⟩
            case measure => simp [intOf]
          · have HSO : Hid (SortedT (insR R (i + 1) s[k])) := Lib.hid (sort_ins HRS.out (by omega) HD.out (fun h => by show R[i].toNat ≤ s[k].toNat; omega))
            go_wp2_with fail
            go_quiet (fail)
            clear r0
            have hd : Below wr.heap.size wr (wr.drewN nq) := (Drew.drewN (Drew.refl _) nq).below _
            replace hb := hb.trans (hd.mono hb.size)
            replace HO := Lib.hid (own_below HO.out hd)
            generalize wr.drewN nq = wa at *
            obtain ⟨o1, k1⟩ := own_byteSet HO.out (i + 1) s[k]
            have HO7 : Hid ((wa.setCell ⟨g7, i + 1, none⟩ (.int .u8 (s[k].toNat : Int))).ownsRow w.heap.size 5 1 (.slice (some ⟨g7, 0, none⟩) (k + 1) cap7) (k + 1) ((insR R (i + 1) s[k]).flatMap U8.enc)) := Lib.hid (by rw [← insR_set (by rw [HRL.out]; omega) z s[k]]; exact o1)
            have hb7 : Below w.heap.size w (wa.setCell ⟨g7, i + 1, none⟩ (.int .u8 (s[k].toNat : Int))) := hb.grown k1 hb.size (fun q h => by cases h; exact hg7)
            have c0 : wa.cell? ⟨g7, i + 1, none⟩ = some (.int .u8 (z.toNat : Int)) := own_byteAt HO.out (by omega) (insR_at (by rw [HRL.out]; omega) z)
            have f0 := HO.out.frozenAt (i + 1)
            clear o1 k1 hd HO hb
            go_wp2
            go_roundw
            case rel => exact ⟨k + 1, g7, cap7, insR R (i + 1) s[k], by omega, by go_num, rfl, Lib.hid (by rw [insR_len, HRL.out]), HSO, Lib.hid (HSP.out _), HO7, hb7⟩
            case measure => simp [intOf]; omega
    · obtain rfl : k = s.size := by omega
      have hcv := own_bytes HO.out HRL.out.symm
      clear HO
      go_wp2
      go_ret
      exact ⟨R, rfl, HRS.out, by have := HRP.out; rwa [List.take_of_length_le (by simp)] at this, hb⟩
end Go.Proofs.YtjdcdhhbgijaoaaGreatDoor
