/- Plain definitions and lemmas: tiles, piles, counts of tiles, whether one pile contains ano · Contracts: the reference's tests on tiles, piles and racks. No condition but that a length · Contracts: a strings.Builder of the call's own: WriteByte, String. No condition but the le -/
import Derived.Test.YtjdcdhhbgijaoaaGreatDoorPlaP
import Derived.Test.YtjdcdhhbgijaoaaGreatDoorBrD
import Derived.Test.YtjdcdhhbgijaoaaGreatDoorLex
import Derived.Test.YtjdcdhhbgijaoaaGreatDoorShq
namespace Go.Proofs.YtjdcdhhbgijaoaaGreatDoor
open Go.ChangeShapes Go.WideShapes Go.ChangeAt Go.RowKit Go.Sort

/-- the k-th tile: the blank, then the letters -/
def tileC (k : Nat) : UInt8 := if k = 0 then 63 else UInt8.ofNat (96 + k)
theorem tileC_nat {k : Nat} (h : k < 27) : (tileC k).toNat = if k = 0 then 63 else 96 + k := by
  unfold tileC
  by_cases e : k = 0
  · rw [if_pos e, if_pos e]; rfl
  · rw [if_neg e, if_neg e, UInt8.toNat_ofNat']
    omega
theorem tileC_inj {j k : Nat} (hj : j < 27) (hk : k < 27) (h : tileC j = tileC k) : j = k := by
  have h1 := congrArg UInt8.toNat h
  rw [tileC_nat hj, tileC_nat hk] at h1
  split at h1 <;> split at h1 <;> omega
/-- is a byte a tile? -/
def tileI (c : Int) : Bool := c == 63 || smallB c
def tileB (c : UInt8) : Bool := tileI c.toNat
theorem tileB_nat (c : UInt8) : tileB c = (c.toNat == 63 || smallB c.toNat) := by
  unfold tileB tileI
  congr 1
  rw [Bool.eq_iff_iff, beq_iff_eq, beq_iff_eq]
  omega
/-- a tile's number, or -1 -/
def plI (c : UInt8) : Int := if c.toNat = 63 then 0 else if smallB c.toNat then (c.toNat : Int) - 97 + 1 else -1
theorem tile_num {c : UInt8} (h : tileB c = true) : ∃ k : Nat, k < 27 ∧ plI c = k ∧ c = tileC k := by
  rw [tileB_nat, Bool.or_eq_true, beq_iff_eq] at h
  unfold plI
  by_cases e : c.toNat = 63
  · refine ⟨0, by omega, by rw [if_pos e]; rfl, ?_⟩
    exact UInt8.toNat_inj.1 (by rw [tileC_nat (by omega), if_pos rfl, e])
  · have hs : smallB c.toNat = true := h.resolve_left e
    have hr : 97 ≤ c.toNat ∧ c.toNat ≤ 122 := by
      unfold smallB at hs
      rw [Bool.and_eq_true, decide_eq_true_eq, decide_eq_true_eq] at hs
      omega
    refine ⟨c.toNat - 96, by omega, by rw [if_neg e, if_pos hs]; omega, ?_⟩
    exact UInt8.toNat_inj.1 (by rw [tileC_nat (by omega), if_neg (by omega)]; omega)
/-- how often the k-th tile is in a list -/
def cntT (l : List UInt8) (k : Nat) : Nat := l.count (tileC k)
theorem cntT_snoc (l : List UInt8) (c : UInt8) (k : Nat) : cntT (l ++ [c]) k = cntT l k + if c = tileC k then 1 else 0 := by
  unfold cntT
  rw [List.count_append, List.count_singleton]
  congr 1
  by_cases e : c = tileC k
  · rw [if_pos e, if_pos (by rw [e]; exact beq_self_eq_true _)]
  · rw [if_neg e, if_neg (by rw [beq_iff_eq]; exact e)]
theorem cntT_le (l : List UInt8) (k : Nat) : cntT l k ≤ l.length := List.count_le_length
/-- 27 numbers as the cells of an array -/
def cellsN (f : Nat → Int) : List Value := (List.range 27).map fun k => Value.int .i64 (f k)
theorem cellsN_len (f : Nat → Int) : (cellsN f).length = 27 := by simp [cellsN]
theorem cellsN_get (f : Nat → Int) {k : Nat} (h : k < 27) : (cellsN f)[k]? = some (.int .i64 (f k)) := by
  unfold cellsN
  rw [List.getElem?_map, List.getElem?_range h]
  rfl
theorem cellsN_set (f : Nat → Int) {i : Nat} (h : i < 27) (v : Int) : (cellsN f).set i (.int .i64 v) = cellsN fun k => if k = i then v else f k := by
  apply List.ext_getElem?
  intro j
  rw [List.getElem?_set]
  by_cases hj : j < 27
  · rw [cellsN_get f hj, cellsN_get _ hj, cellsN_len]
    by_cases e : i = j
    · subst e
      rw [if_pos rfl, if_pos h, if_pos rfl]
    · rw [if_neg e, if_neg (fun (x : j = i) => e x.symm)]
  · rw [List.getElem?_eq_none (by rw [cellsN_len]; omega)]
    rw [if_neg (by omega), List.getElem?_eq_none (by rw [cellsN_len]; omega)]
theorem cellsN_congr {f g : Nat → Int} (h : ∀ k, k < 27 → f k = g k) : cellsN f = cellsN g := by
  unfold cellsN
  exact List.map_congr_left fun k hk => by rw [h k (List.mem_range.1 hk)]
theorem cellsN_zero : cellsN (fun _ => 0) = [.int .i64 0, .int .i64 0, .int .i64 0, .int .i64 0, .int .i64 0, .int .i64 0, .int .i64 0, .int .i64 0, .int .i64 0, .int .i64 0, .int .i64 0, .int .i64 0, .int .i64 0, .int .i64 0, .int .i64 0, .int .i64 0, .int .i64 0, .int .i64 0, .int .i64 0, .int .i64 0, .int .i64 0, .int .i64 0, .int .i64 0, .int .i64 0, .int .i64 0, .int .i64 0, .int .i64 0] := rfl
def pileL (f : Nat → Int) (n : Nat) : List UInt8 := (List.range n).flatMap fun k => List.replicate (f k).toNat (tileC k)
theorem pileL_zero (f : Nat → Int) : pileL f 0 = [] := rfl
theorem pileL_succ (f : Nat → Int) (n : Nat) : pileL f (n + 1) = pileL f n ++ List.replicate (f n).toNat (tileC n) := by
  unfold pileL
  rw [List.range_succ, List.flatMap_append]
  simp
theorem rep_snoc {α : Type} (n : Nat) (x : α) : List.replicate (n + 1) x = List.replicate n x ++ [x] := by
  rw [List.replicate_succ']
theorem pile_cnt (f : Nat → Int) {i : Nat} (hi : i < 27) : ∀ n, n ≤ 27 → cntT (pileL f n) i = if i < n then (f i).toNat else 0
  | 0, _ => by rw [pileL_zero, if_neg (by omega)]; rfl
  | n + 1, h => by
    rw [pileL_succ]
    unfold cntT
    rw [List.count_append]
    have ih := pile_cnt f hi n (by omega)
    unfold cntT at ih
    rw [ih, List.count_replicate]
    by_cases e : n = i
    · subst e
      have e1 : (tileC n == tileC n) = true := beq_self_eq_true _
      rw [e1]
      simp
    · have e3 : (tileC n == tileC i) = false := beq_eq_false_iff_ne.2 fun x => e (tileC_inj (by omega) hi x)
      rw [e3]
      by_cases e2 : i < n
      · have e4 : i < n + 1 := by omega
        simp [e2, e4]
      · have e4 : ¬ i < n + 1 := by omega
        simp [e2, e4]
theorem pile_tiles (f : Nat → Int) : ∀ n, n ≤ 27 → ∀ c ∈ pileL f n, tileB c = true
  | 0, _, c, h => by simp [pileL_zero] at h
  | n + 1, hn, c, h => by
    rw [pileL_succ, List.mem_append] at h
    rcases h with h | h
    · exact pile_tiles f n (by omega) c h
    · rw [(List.mem_replicate.1 h).2]
      rw [tileB_nat, tileC_nat (by omega)]
      by_cases e : n = 0
      · rw [if_pos e]; rfl
      · rw [if_neg e, Bool.or_eq_true]
        refine .inr ?_
        unfold smallB
        rw [Bool.and_eq_true, decide_eq_true_eq, decide_eq_true_eq]
        omega
theorem pile_len (f : Nat → Int) (B : Nat) (hf : ∀ k, f k ≤ B) : ∀ n, (pileL f n).length ≤ n * B
  | 0 => by rw [pileL_zero]; simp
  | n + 1 => by
    rw [pileL_succ, List.length_append, List.length_replicate]
    have := pile_len f B hf n
    have := hf n
    have e : (n + 1) * B = n * B + B := Nat.succ_mul n B
    omega

/-! ### Whether a pile contains another -/
theorem u8_at {l : List UInt8} {j : Nat} (h : j < l.length) : l.getD j 0 = l[j] := by simp [h]
/-- what a walk along a string has found so far -/
def PU (l : List UInt8) (k : Nat) : Prop := (∀ j, j < k → tileB (l.getD j 0) = true) ∧ (∀ j, j < k → 0 < j → (l.getD (j - 1) 0).toNat ≤ (l.getD j 0).toNat)
theorem PU.zero (l : List UInt8) : PU l 0 := ⟨fun j h => by omega, fun j h => by omega⟩
theorem u8_byte {s : ByteArray} {k : Nat} (h : k < s.size) : s.data.toList.getD k 0 = s[k] := by
  rw [u8_at (by simpa using h)]
  rfl
theorem PU.first {s : ByteArray} (h : 0 < s.size) (ht : tileI (s[0].toNat : Int) = true) : PU s.data.toList 1 := by
  refine ⟨fun j hj => ?_, fun j hj h0 => by omega⟩
  obtain rfl : j = 0 := by omega
  rw [u8_byte h]
  exact ht
theorem PU.step {s : ByteArray} {k : Nat} (h : PU s.data.toList (k + 1)) (hk : k + 1 < s.size) (ht : tileI (s[k + 1].toNat : Int) = true) (ho : ¬ (s[k + 1].toNat : Int) < (s[k].toNat : Int)) : PU s.data.toList (k + 1 + 1) := by
  refine ⟨fun j hj => ?_, fun j hj h0 => ?_⟩
  · by_cases e : j = k + 1
    · subst e; rw [u8_byte hk]; exact ht
    · exact h.1 j (by omega)
  · by_cases e : j = k + 1
    · subst e
      rw [Nat.add_sub_cancel, u8_byte hk, u8_byte (by omega)]
      omega
    · exact h.2 j (by omega) h0
end Go.Proofs.YtjdcdhhbgijaoaaGreatDoor

namespace Go.Proofs.YtjdcdhhbgijaoaaGreatDoor
open Go.ChangeShapes Go.WideShapes Go.ChangeAt Go.RowKit Go.Sort

def cntI (l : List UInt8) : Nat → Int := fun k => (cntT l k : Int)
theorem pile_perm {l : List UInt8} (h : l.all tileB = true) : (pileL (cntI l) 27).Perm l := by
  rw [List.perm_iff_count]
  intro c
  cases hc : tileB c with
  | true =>
    obtain ⟨k, hk, _, rfl⟩ := tile_num hc
    have h1 := pile_cnt (cntI l) hk 27 (Nat.le_refl _)
    rw [if_pos hk] at h1
    unfold cntT at h1
    rw [h1]
    unfold cntI cntT
    exact Int.toNat_natCast _
  | false =>
    have h1 : c ∉ pileL (cntI l) 27 := fun hm => by
      have := pile_tiles (cntI l) 27 (Nat.le_refl _) c hm
      rw [hc] at this
      cases this
    have h2 : c ∉ l := fun hm => by
      have := (List.all_eq_true.1 h) c hm
      rw [hc] at this
      cases this
    rw [List.count_eq_zero.2 h1, List.count_eq_zero.2 h2]
/-- the pile of a list of tiles -/
def srtL (l : List UInt8) : List UInt8 := pileL (cntI l) 27
theorem srt_perm {l : List UInt8} (h : l.all tileB = true) : (srtL l).Perm l := pile_perm h
theorem srt_len {l : List UInt8} (h : l.all tileB = true) : (srtL l).length = l.length := (srt_perm h).length_eq
def tlC (c : UInt8) : UInt8 := if capB (c.toNat : Int) then 63 else c
theorem tlC_cap {c : UInt8} (h : capB (c.toNat : Int) = true) : ((tlC c).toNat : Int) = 63 := by unfold tlC; rw [if_pos h]; rfl
theorem tlC_not {c : UInt8} (h : capB (c.toNat : Int) = false) : tlC c = c := by unfold tlC; rw [h]; rfl
theorem tile_of_let {c : UInt8} (h : letB c.toNat = true) : tileB (tlC c) = true := by
  cases hc : capB (c.toNat : Int) with
  | true =>
    have e : tlC c = 63 := by unfold tlC; rw [if_pos hc]
    rw [e]; rfl
  | false =>
    rw [tlC_not hc]
    unfold tileB tileI
    unfold letB at h
    rw [hc] at h
    rw [Bool.or_eq_true]
    exact .inr (by simpa using h)
end Go.Proofs.YtjdcdhhbgijaoaaGreatDoor
namespace Go.Proofs.YtjdcdhhbgijaoaaGreatDoor
open Go.ChangeShapes Go.WideShapes Go.ChangeAt Go.RowKit Go.Sort

end Go.Proofs.YtjdcdhhbgijaoaaGreatDoor

namespace Go.Proofs.YtjdcdhhbgijaoaaGreatDoor
open Go.ChangeShapes Go.WideShapes Go.ChangeAt Go.RowKit Go.Sort

theorem plI_63 {c : UInt8} (h : (c.toNat : Int) = 63) : plI c = 0 := by unfold plI; rw [if_pos (by omega)]
theorem plI_small {c : UInt8} (h : ¬ (c.toNat : Int) = 63) (hs : smallB c.toNat = true) : plI c = (c.toNat : Int) - 97 + 1 ∧ 97 ≤ (c.toNat : Int) ∧ (c.toNat : Int) ≤ 122 := by
  refine ⟨by unfold plI; rw [if_neg (by omega), if_pos hs], ?_⟩
  unfold smallB at hs
  rwa [Bool.and_eq_true, decide_eq_true_eq, decide_eq_true_eq] at hs
theorem plI_none {c : UInt8} (h : ¬ (c.toNat : Int) = 63) (hs : smallB c.toNat = false) : plI c = -1 := by
  unfold plI; rw [if_neg (by omega), if_neg (by rw [hs]; decide)]
set_option maxHeartbeats 1000000 in
theorem place_any (c : UInt8) (w : World) : Calls Tryz.prog 208 #[.int .u8 (c.toNat : Int)] w fun e w' => e = .returned (.int .i64 (plI c)) ∧ w = w' := by
  by_cases h : (c.toNat : Int) = 63
  · have HN := Lib.hid (plI_63 h)
    go_enter Tryz.func208, Tryz.ntmps208
    go_wp2
    go_ret
    exact ⟨ret_int HN.out.symm, rfl⟩
  · cases hs : smallB (c.toNat : Int) with
    | true =>
      obtain ⟨h1, h2, h3⟩ := plI_small h hs
      have HN := Lib.hid h1
      clear h1
      go_enter Tryz.func208, Tryz.ntmps208
      go_wp2_with fail
      refine (small_any _ _).mono ?_
      rintro e w' ⟨rfl, rfl⟩
      rw [hs]
      clear hs
      go_wp2
      go_ret
      exact ⟨ret_int (by rw [HN.out]), rfl⟩
    | false =>
      have HN := Lib.hid (plI_none h hs)
      go_enter Tryz.func208, Tryz.ntmps208
      go_wp2_with fail
      refine (small_any _ _).mono ?_
      rintro e w' ⟨rfl, rfl⟩
      rw [hs]
      clear hs
      go_wp2
      go_ret
      exact ⟨ret_int HN.out.symm, rfl⟩
theorem tileAt_any (k : Nat) (hk : k < 27) (w : World) : Calls Tryz.prog 255 #[.int .i64 (k : Int)] w fun e w' => e = .returned (.int .u8 ((tileC k).toNat : Int)) ∧ w = w' := by
  have HN := Lib.hid (tileC_nat hk)
  generalize (tileC k).toNat = t at *
  by_cases h : k = 0
  · subst h
    go_enter Tryz.func255, Tryz.ntmps255
    go_wp2
    go_ret
    exact ⟨ret_int (by rw [HN.out]; rfl), rfl⟩
  · have h1 : ¬ (k : Int) = 0 := by omega
    have h2 : ((97 + (k : Int) - 1) % 256) = 96 + (k : Int) := by omega
    go_enter Tryz.func255, Tryz.ntmps255
    go_wp2
    go_ret
    exact ⟨ret_int (by rw [HN.out, if_neg h]; omega), rfl⟩
/-- ascending so far -/
def UO (l : List UInt8) (k : Nat) : Prop := ∀ j, j < k → 0 < j → (l.getD (j - 1) 0).toNat ≤ (l.getD j 0).toNat
theorem UO.one (l : List UInt8) : UO l 1 := fun j h h0 => by omega
theorem UO.step {s : ByteArray} {k : Nat} (h : UO s.data.toList (k + 1)) (hk : k + 1 < s.size) (ho : ¬ (s[k].toNat : Int) > (s[k + 1].toNat : Int)) : UO s.data.toList (k + 1 + 1) := by
  intro j hj h0
  by_cases e : j = k + 1
  · subst e
    rw [Nat.add_sub_cancel, u8_byte hk, u8_byte (by omega)]
    omega
  · exact h j (by omega) h0
end Go.Proofs.YtjdcdhhbgijaoaaGreatDoor

namespace Go.Proofs.YtjdcdhhbgijaoaaGreatDoor
open Go.ChangeShapes Go.WideShapes Go.ChangeAt Go.RowKit Go.Sort

/-! ### Rows of bytes that were appended to -/
end Go.Proofs.YtjdcdhhbgijaoaaGreatDoor
namespace Go.Proofs.YtjdcdhhbgijaoaaGreatDoor
open Go.ChangeShapes Go.WideShapes Go.ChangeAt Go.RowKit Go.Sort Go.Shelf

def ren167 : Go.Shelf.Ren := ⟨fun | 167 => 254 | n => Tryz.lays155_ren.f n, Tryz.lays155_ren.t, Tryz.lays155_ren.g⟩
theorem lays167 : Lays.n167 Tryz.prog ren167 := { Tryz.lays155 with
  f167 := Tryz.func254.trans (congrArg some (by kernel_rfl))
  f240 := Tryz.lays155.f240.trans (congrArg some (by kernel_rfl))
  f276 := Tryz.lays155.f276.trans (congrArg some (by kernel_rfl)) }
set_option maxRecDepth 100000 in
theorem extra167 : Builder.Extra Tryz.prog ren167 := (show Builder.Extra Tryz.prog ⟨Tryz.lays155_ren.f, ren167.t, ren167.g⟩ from Tryz.Builder_Extra_155) |> fun x => { sizeBuilder := x.sizeBuilder, liesBuilder := x.liesBuilder, t5 := x.t5, a5 := x.a5, z5 := x.z5, v5 := x.v5, infoByte := x.infoByte, cellsByte := x.cellsByte, sizeByte := x.sizeByte, neB5 := x.neB5 }
theorem lays169 : Lays.n169 Tryz.prog Tryz.lays155_ren := { Tryz.lays155 with }
/-- a builder of the call's own that holds the text l -/
def IsB (B b : Nat) (l : List UInt8) (w : World) : Prop := Lib.IsBuilderF 239 5 B b (Lib.byteCells l) w
theorem atF_below {T e : TypeId} {B b : Nat} {p : Value} {bs : List Value} {W W' : World} (h : Lib.BuilderAtF T e B b p bs W) (hb : Below W.heap.size W W') : Lib.BuilderAtF T e B b p bs W' := by
  have hlt := h.lt
  obtain ⟨hB, v, h1, h2, h3⟩ := h
  exact ⟨hB, v, (hb.block b hlt).trans h1, h2.kept (row := none) (grown_of_below hb) (Classical.em _), h3⟩
theorem IsB.kept {B b : Nat} {l : List UInt8} {w w' : World} (h : IsB B b l w) (hb : Below w.heap.size w w') : IsB B b l w' :=
  h.elim (fun x => .inl (atF_below x hb)) (fun x => .inr (atF_below x hb))
theorem IsB.new (w : World) : IsB w.heap.size w.heap.size [] (w.alloc (.cells #[.pointer none, .slice none 0 0] 239)) := Lib.IsBuilderF.of (Lib.fresh_isBuilder _ _ w)
theorem builderByte_any (B b : Nat) (l : List UInt8) (c : UInt8) (w : World) (h : IsB B b l w) (hl : l.length + 1 ≤ 140737488355328) (hB : B ≤ w.heap.size) :
    Calls Tryz.prog 254 #[.pointer (some ⟨b, 0, none⟩), .int .u8 (c.toNat : Int)] w fun e w' => e = .returned .nilIface ∧ IsB B b (l ++ [c]) w' ∧ Below B w w' := by
  refine (Any.Builder_WriteByte_k lays167 extra167 B b (Lib.byteCells l) (c.toNat : Int) w h (by simpa [Lib.byteCells] using hl) hB).mono ?_
  rintro e w' ⟨he, h1, h2, h3⟩
  refine ⟨he, .inr ?_, h2⟩
  rw [Lib.byteCells_append]
  exact h1
theorem builderString_any (B b : Nat) (l : List UInt8) (w : World) (h : IsB B b l w) (hB : B ≤ w.heap.size) :
    Calls Tryz.prog 256 #[.pointer (some ⟨b, 0, none⟩)] w fun e w' => e = .returned (.string (mkB l)) ∧ Below B w w' := by
  refine (Any.Builder_String_any_k lays169 Tryz.Builder_Extra_155 B b l w h hB).mono ?_
  rintro e w' ⟨he, _, h2, _⟩
  exact ⟨he, h2⟩
end Go.Proofs.YtjdcdhhbgijaoaaGreatDoor

namespace Go.Proofs.YtjdcdhhbgijaoaaGreatDoor
open Go.ChangeShapes Go.WideShapes Go.ChangeAt Go.RowKit Go.Sort

/-- the value of an array of counts -/
def ctsV (f : Nat → Int) : Value := .agg (cellsN f).toArray

theorem size_counts (f : Nat → Int) : (Tryz.prog.info? 201).map (·.size) = some (cellsN f).length := by
  rw [cellsN_len]; kernel_rfl
theorem index_counts (f : Nat → Int) {k : Nat} (h : k < 27) (w : World) : (Instr.index 201 (ctsV f) (.int .i64 (k : Int))).run Tryz.prog w = .ok (.int .i64 (f k)) w := by
  have h2 : (isAgg 3).run Tryz.prog w = .ok false w := by
    unfold isAgg
    rw [Sem.run_bind, run_underlying Tryz.underlying3 w]
    simp
  have h3 : (sizeOf 3).run Tryz.prog w = .ok 1 w := by
    have : (Tryz.prog.info? 3).map (·.size) = some 1 := by kernel_rfl
    cases hq : Tryz.prog.info? 3 with
    | none => simp [hq] at this
    | some i => simp [sizeOf, typeInfo, hq] at this ⊢; exact this
  unfold ctsV
  simp [Instr.index, Sem.run_bind, run_underlying Tryz.underlying201 w, asIntOf, part, h2, h3, Result.andThen]
  rw [if_pos h, cellsN_get f h]
  rfl
/-- a new array of counts -/
abbrev cts0 : Obj := .cells #[.int .i64 0, .int .i64 0, .int .i64 0, .int .i64 0, .int .i64 0, .int .i64 0, .int .i64 0, .int .i64 0, .int .i64 0, .int .i64 0, .int .i64 0, .int .i64 0, .int .i64 0, .int .i64 0, .int .i64 0, .int .i64 0, .int .i64 0, .int .i64 0, .int .i64 0, .int .i64 0, .int .i64 0, .int .i64 0, .int .i64 0, .int .i64 0, .int .i64 0, .int .i64 0, .int .i64 0] 201
theorem VarAt.counts0 (w : World) : VarAt (w.alloc cts0) w.heap.size 201 (cellsN fun _ => 0) := by
  rw [cellsN_zero]
  exact VarAt.new w 201 _
theorem VarAt.countSet {w : World} {g : Nat} {t : TypeId} {f h : Nat → Int} (hv : VarAt w g t (cellsN f)) {k : Nat} (hk : k < 27) (v : Int) (hh : ∀ j, j < 27 → h j = if j = k then v else f j) :
    VarAt (w.setCell ⟨g, k, none⟩ (.int .i64 v)) g t (cellsN h) ∧ w.grownBy (w.setCell ⟨g, k, none⟩ (.int .i64 v)) (some g) := by
  obtain ⟨h1, h2⟩ := hv.set k (.int .i64 v)
  refine ⟨?_, h2⟩
  rw [cellsN_set f hk] at h1
  exact h1.as (cellsN_congr fun j hj => (hh j hj).symm)
theorem cnt_step {l : List UInt8} {c : UInt8} {k : Nat} (hk : k < 27) (hc : c = tileC k) : ∀ j, j < 27 → cntI (l ++ [c]) j = if j = k then cntI l k + 1 else cntI l j := by
  intro j hj
  unfold cntI
  rw [cntT_snoc]
  by_cases e : j = k
  · subst e
    rw [if_pos rfl, if_pos hc]
    omega
  · rw [if_neg e, if_neg (fun x => e (tileC_inj hj hk (by rw [← hc, ← x]))), Nat.add_zero]
set_option maxRecDepth 100000 in
set_option maxHeartbeats 4000000 in
theorem pile_any (f : Nat → Int) (w : World) (hf : ∀ k, f k ≤ 100000) (hf0 : ∀ k, k < 27 → 0 ≤ f k) :
    Calls Tryz.prog 209 #[.agg (cellsN f).toArray] w (StrPost w (pileL f 27)) := by
  have hb0 : Below w.heap.size w (w.alloc (.cells (cellsN f).toArray 201)) := (Below.refl _ _).alloc (Nat.le_refl _) _
  have VF := Lib.hid (VarAt.new w 201 (cellsN f))
  have hz0 : w.heap.size < (w.alloc (.cells (cellsN f).toArray 201)).heap.size := by simp
  have HIX : Hid (∀ (k : Nat) (h : k < 27) (W : World), (Instr.index 201 (.agg (cellsN f).toArray) (.int .i64 (k : Int))).run Tryz.prog W = .ok (.int .i64 (f k)) W) := Lib.hid (fun k h W => index_counts f h W)
  have HF := Lib.hid hf
  have HF0 := Lib.hid hf0
  have HLN : Hid (∀ k, k ≤ 27 → (pileL f k).length ≤ 2700000) := Lib.hid (fun k h => Nat.le_trans (pile_len f 100000 (fun j => by have := hf j; omega) k) (by omega))
  have HSU := Lib.hid (pileL_succ f)
  have HZ : Hid (pileL f 0 = []) := Lib.hid (pileL_zero f)
  have HSZ := Lib.hid (size_counts f)
  clear hf hf0
  generalize hL : pileL f = L at *
  have HLQ := Lib.hid hL
  clear hL
  generalize hcs : cellsN f = cs at *
  clear hcs
  go_enter Tryz.func209, Tryz.ntmps209
  go_upto_region 1 with fail
  generalize w.alloc (.cells cs.toArray 201) = w1 at *
  have HB := Lib.hid (IsB.new w1)
  have hd1 : Below w1.heap.size w1 (w1.alloc (.cells #[.pointer none, .slice none 0 0] 239)) := (Below.refl _ _).alloc (Nat.le_refl _) _
  replace VF := Lib.hid (VF.out.kept hd1)
  have hb := hb0.trans (hd1.mono hb0.size)
  have hB2 : w1.heap.size ≤ (w1.alloc (.cells #[.pointer none, .slice none 0 0] 239)).heap.size := hd1.size
  clear hd1 hb0
  go_upto_region 2 with fail
  generalize w1.alloc (.cells #[.pointer none, .slice none 0 0] 239) = w2 at *
  generalize w1.heap.size = B at *
  have rA := VF.out.range
  refine wp_region_list ?_
  refine wpList_load_mid rfl 201 _ rfl w.heap.size 0 rfl cs _ rA Tryz.underlying201 rfl HSZ.out ?_
  clear rA VF HSZ
  go_upto_region 3 with fail
  go_loopw [4, 5, 7] (fun kv nv iv wr => ∃ i : Nat, i ≤ 27 ∧ iv = .int .i64 i ∧ Hid (IsB B B (L i) wr) ∧ B ≤ wr.heap.size ∧ Below w.heap.size w wr) (fun _ _ iv _ => 27 - (intOf iv).toNat)
  case atStart => exact ⟨0, Nat.zero_le _, rfl, Lib.hid (by rw [HZ.out]; exact HB.out), hB2, hb⟩
  case round =>
    clear HB hb hB2 HZ
    obtain ⟨i, hi, rfl, HB, hB, hb⟩ := hrel
    by_cases hlt : i < 27
    · have HI := Lib.hid (HIX.out i hlt)
      have hix := HI.out
      have HS := Lib.hid (HSU.out i)
      have hf1 := HF.out i
      have hf0 := HF0.out i hlt
      have hl1 := HLN.out i (by omega)
      have hli : (i : Int) < 27 := by omega
      go_upto_region 5 with fail
      clear hix
      obtain ⟨N, hN⟩ : ∃ N : Nat, f i = (N : Int) := ⟨(f i).toNat, by omega⟩
      rw [hN] at HS hf1 hf0
      rw [Int.toNat_natCast] at HS
      rw [hN]
      clear hN HI hf0
      have HTC : Hid (∀ W, Calls Tryz.prog 255 #[.int .i64 (i : Int)] W fun e w' => e = .returned (.int .u8 ((tileC i).toNat : Int)) ∧ W = w') := Lib.hid (fun W => tileAt_any i hlt W)
      generalize tileC i = c at *
      have hN1 : N ≤ 100000 := by omega
      have HB2 : Hid (IsB B B (L i ++ List.replicate (N - N) c) wr) := Lib.hid (by rw [Nat.sub_self, List.replicate_zero, List.append_nil]; exact HB.out)
      clear HB hf1
      go_loopw [5] (fun nv wv => ∃ d : Nat, d ≤ N ∧ nv = .int .i64 (d : Int) ∧ Hid (IsB B B (L i ++ List.replicate (N - d) c) wv) ∧ B ≤ wv.heap.size ∧ Below w.heap.size w wv) (fun nv _ => (intOf nv).toNat)
      case atStart => exact ⟨N, Nat.le_refl _, rfl, HB2, hB, hb⟩
      case round =>
        clear HB2 hB hb
        obtain ⟨d, hd, rfl, HB, hB, hb⟩ := hrel
        by_cases h0 : 0 < d
        · have hll : (L i ++ List.replicate (N - d) c).length + 1 ≤ 140737488355328 := by rw [List.length_append, List.length_replicate]; omega
          have HRS : Hid (L i ++ List.replicate (N - (d - 1)) c = (L i ++ List.replicate (N - d) c) ++ [c]) := Lib.hid (by
            rw [show N - (d - 1) = (N - d) + 1 from by omega, rep_snoc, List.append_assoc])
          generalize L i ++ List.replicate (N - d) c = R at *
          go_wp2_with fail
          refine (HTC.out _).mono ?_
          rintro e w3 ⟨rfl, rfl⟩
          go_wp2_with fail
          refine (builderByte_any B B R c _ HB.out hll hB).mono ?_
          rintro e w3 ⟨rfl, hB3, hd3⟩
          have HB3 := Lib.hid hB3
          have hb3 := hb.trans (hd3.mono (by omega))
          have hB4 : B ≤ w3.heap.size := Nat.le_trans hB hd3.size
          clear hB3 hd3 HB hb hll
          go_wp2
          go_roundw
          case rel => exact ⟨d - 1, by omega, by go_num, by rw [HRS.out]; exact HB3, hB4, hb3⟩
          case measure => simp [intOf]; omega
        · obtain rfl : d = 0 := by omega
          have HB3 : Hid (IsB B B (L (i + 1)) wr) := Lib.hid (by rw [HS.out]; exact HB.out)
          clear HB HS
          go_wp2
          go_roundw
          case rel => exact ⟨i + 1, by omega, by go_num, HB3, hB, hb⟩
          case measure => simp [intOf]; omega
    · obtain rfl : i = 27 := by omega
      go_wp2_with fail
      refine (builderString_any B B (L 27) _ HB.out hB).mono ?_
      rintro e w3 ⟨rfl, hd⟩
      replace hb := hb.trans (hd.mono (by omega))
      clear HB hd
      go_wp2
      go_ret
      exact ⟨rfl, hb⟩
/-! ### Taking tiles away -/
end Go.Proofs.YtjdcdhhbgijaoaaGreatDoor

namespace Go.Proofs.YtjdcdhhbgijaoaaGreatDoor
open Go.ChangeShapes Go.WideShapes Go.ChangeAt Go.RowKit Go.Sort

theorem cnt_range (l : List UInt8) (h : l.length ≤ 100000) (k : Nat) : 0 ≤ cntI l k ∧ cntI l k ≤ 100000 := by
  have := cntT_le l k
  unfold cntI
  omega
set_option maxRecDepth 100000 in
set_option maxHeartbeats 4000000 in
theorem tilesOf_any (s : ByteArray) (w : World) (hs : s.size ≤ 100000) (ht : s.data.toList.all (fun c => letB c.toNat) = true) :
    Calls Tryz.prog 126 #[.string s] w (StrPost w (srtL (s.data.toList.map tlC))) := by
  have V0 := Lib.hid (VarAt.counts0 w)
  have hb : Below w.heap.size w (w.alloc cts0) := (Below.refl _ _).alloc (Nat.le_refl _) _
  have hll : (s.data.toList.map tlC).length ≤ 100000 := by rw [List.length_map]; simpa using hs
  have HT : Hid (∀ k (h : k < s.size), capB (s[k].toNat : Int) = false → ∃ t : Nat, t < 27 ∧ plI s[k] = t ∧ tlC s[k] = tileC t) := Lib.hid (fun k h hc => by
    have h1 : letB (s[k].toNat : Int) = true := (List.all_eq_true.1 ht) _ (by rw [← bytes_get s k h]; exact List.getElem_mem _)
    have h2 := tile_of_let h1
    rw [tlC_not hc] at h2 ⊢
    exact tile_num h2)
  have HC : Hid (∀ k (h : k < s.size), capB (s[k].toNat : Int) = true → tlC s[k] = tileC 0) := Lib.hid (fun k h hc => UInt8.toNat_inj.1 (by have := tlC_cap hc; rw [tileC_nat (by omega), if_pos rfl]; omega))
  obtain ⟨lt, hlt⟩ : ∃ lt : Nat → List UInt8, ∀ k, lt k = (s.data.toList.take k).map tlC := ⟨_, fun _ => rfl⟩
  have HTK : Hid (∀ k (h : k < s.size), lt (k + 1) = lt k ++ [tlC s[k]]) := Lib.hid (fun k h => by rw [hlt, hlt, show s.data.toList.take (k + 1) = s.data.toList.take k ++ [s[k]] from List.take_succ_eq_append_getElem (by simpa using h), List.map_append]; rfl)
  have HLN : Hid (∀ k, (lt k).length ≤ s.size) := Lib.hid (fun k => by rw [hlt, List.length_map, List.length_take]; simp; omega)
  have HL0 : Hid (cellsN (cntI (lt 0)) = cellsN fun _ => 0) := Lib.hid (by rw [hlt]; rfl)
  have HLE : Hid (lt s.size = s.data.toList.map tlC) := Lib.hid (by rw [hlt, List.take_of_length_le (by simp)])
  have HPI : Hid (∀ W, Calls Tryz.prog 209 #[.agg (cellsN (cntI (lt s.size))).toArray] W (StrPost W (srtL (lt s.size)))) := Lib.hid (fun W => by
    rw [HLE.out]
    exact pile_any (cntI (s.data.toList.map tlC)) W (fun k => (cnt_range _ hll k).2) (fun k _ => (cnt_range _ hll k).1))
  rw [← HLE.out]
  have HSZ := Lib.hid (size_counts (cntI (lt s.size)))
  clear hlt HLE ht hll
  go_enter Tryz.func126, Tryz.ntmps126
  go_upto_region 3 with fail
  generalize w.alloc cts0 = w1 at *
  go_loopw [4] (fun iv wr => ∃ k : Nat, k ≤ s.size ∧ iv = .int .i64 k ∧ Hid (VarAt wr w.heap.size 201 (cellsN (cntI (lt k)))) ∧ Below w.heap.size w wr) (fun iv _ => s.size - (intOf iv).toNat)
  case atStart => exact ⟨0, Nat.zero_le _, rfl, Lib.hid (by rw [HL0.out]; exact V0.out), hb⟩
  case round =>
    clear V0 hb HL0
    obtain ⟨k, hk, rfl, VC, hb⟩ := hrel
    by_cases hlt : k < s.size
    · have HTi := Lib.hid (HT.out k hlt)
      have HCi := Lib.hid (HC.out k hlt)
      have HKi := Lib.hid (HTK.out k hlt)
      have hln := HLN.out k
      cases hcap : capB (s[k].toNat : Int) with
      | true =>
        have HS := Lib.hid (cnt_step (l := lt k) (c := tlC s[k]) (k := 0) (by omega) (HCi.out hcap))
        rw [← HKi.out] at HS
        have h1 := cntT_le (lt k) 0
        have hle : cntI (lt k) 0 ≤ 100000 := by unfold cntI; omega
        have hge : 0 ≤ cntI (lt k) 0 := by unfold cntI; omega
        have c0 := VC.out.cell (cellsN_get _ (show 0 < 27 by omega))
        have f0 := VC.out.free 0
        obtain ⟨o0, k0⟩ := VC.out.countSet (k := 0) (by omega) _ HS.out
        have VN := Lib.hid o0
        have hbn := hb.grown k0 hb.size (fun q h => by cases h; omega)
        clear o0 k0 VC hb HS HTi HCi HKi h1
        generalize cntI (lt k) 0 = n at *
        have wr1 : IntKind.i64.wrap (n + 1) = n + 1 := IntWalk.i64_in _ (by omega)
        go_wp2_with fail
        refine (capital_any _ _).mono ?_
        rintro e w' ⟨rfl, rfl⟩
        rw [hcap]
        clear hcap
        go_wp2
        go_roundw
        case rel => exact ⟨k + 1, by omega, by go_num, VN, hbn⟩
        case measure => simp [intOf]; omega
      | false =>
        obtain ⟨t, ht, hp, hc⟩ := HTi.out hcap
        have HS := Lib.hid (cnt_step (l := lt k) (c := tlC s[k]) ht hc)
        rw [← HKi.out] at HS
        have h1 := cntT_le (lt k) t
        have hle : cntI (lt k) t ≤ 100000 := by unfold cntI; omega
        have hge : 0 ≤ cntI (lt k) t := by unfold cntI; omega
        have c0 := VC.out.cell (cellsN_get _ ht)
        have f0 := VC.out.free t
        obtain ⟨o0, k0⟩ := VC.out.countSet ht _ HS.out
        have VN := Lib.hid o0
        have hbn := hb.grown k0 hb.size (fun q h => by cases h; omega)
        clear o0 k0 VC hb HS HTi HCi HKi h1 hc
        generalize cntI (lt k) t = n at *
        have wr1 : IntKind.i64.wrap (n + 1) = n + 1 := IntWalk.i64_in _ (by omega)
        go_wp2_with fail
        refine (capital_any _ _).mono ?_
        rintro e w' ⟨rfl, rfl⟩
        rw [hcap]
        clear hcap
        go_wp2_with fail
        refine (place_any _ _).mono ?_
        rintro e w' ⟨rfl, rfl⟩
        rw [hp]
        clear hp
        go_wp2
        go_roundw
        case rel => exact ⟨k + 1, by omega, by go_num, VN, hbn⟩
        case measure => simp [intOf]; omega
    · obtain rfl : k = s.size := by omega
      have rZ := VC.out.range
      generalize cellsN (cntI (lt s.size)) = cr at *
      generalize srtL (lt s.size) = rl at *
      clear VC
      go_upto_region 8 with fail
      refine wp_region_list ?_
      refine wpList_load_mid rfl 201 _ rfl w.heap.size 0 rfl cr _ rZ Tryz.underlying201 rfl HSZ.out ?_
      clear rZ
      go_wp2_with fail
      refine (HPI.out _).mono ?_
      rintro e w5 ⟨rfl, hd⟩
      replace hb := hb.trans (hd.mono hb.size)
      clear hd
      go_wp2
      go_ret
      exact ⟨rfl, hb⟩
end Go.Proofs.YtjdcdhhbgijaoaaGreatDoor
