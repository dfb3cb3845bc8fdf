/- Contracts: the statements' own functions of TileSet (sz, to, eq). No condition but that a length fits an int. · Plain definitions and lemmas: valid tile sets, the values of letters. No condition. · Contracts: the reference's test on tile sets, the values of letters. No condition but that lengths fit an int. · Contract: the reference's test on tile sets. No condition but that lengths fit an int. · Contracts: the program's test on tile sets, the value of a letter. No condition but that lengths fit an int. -/
import Derived.Test.YtjdcdhhbgijaoaaGreatDoorVar
import Derived.Test.YtjdcdhhbgijaoaaGreatDoorFrame
import Derived.Test.YtjdcdhhbgijaoaaGreatDoorBrA
import Derived.Lib.IndexLaws
import Derived.Test.YtjdcdhhbgijaoaaGreatDoorShq
import Derived.Test.YtjdcdhhbgijaoaaGreatDoorLex
namespace Go.Proofs.YtjdcdhhbgijaoaaGreatDoor
open Go.ChangeShapes Go.WideShapes Go.ChangeAt Go.RowKit Go.Sort

structure Tls where
  letters : ByteArray
  values : List Int
  counts : List Int
  blanks : Int
/-- where its rows lie -/
structure TlA where
  values : Rwa
  counts : Rwa
def Tls.At (x : Tls) (p : TlA) (w : World) : Prop := SliceAt w 1 I64.enc p.values.a x.values ∧ SliceAt w 1 I64.enc p.counts.a x.counts
theorem Tls.At.kept {x : Tls} {p : TlA} {w w' : World} (h : x.At p w) (hb : Below w.heap.size w w') : x.At p w' := ⟨h.1.kept hb, h.2.kept hb⟩
/-- its rows are of the call's own -/
def Tls.Own (x : Tls) (p : TlA) (base : Nat) (w : World) : Prop := w.ownsRow base 2 1 (.slice p.values.a x.values.length p.values.c) x.values.length (x.values.flatMap I64.enc) ∧ w.ownsRow base 2 1 (.slice p.counts.a x.counts.length p.counts.c) x.counts.length (x.counts.flatMap I64.enc)
theorem Tls.Own.at {x : Tls} {p : TlA} {base : Nat} {w : World} (h : x.Own p base w) : x.At p w := ⟨own_slice I64.enc_len h.1 rfl, own_slice I64.enc_len h.2 rfl⟩
theorem Tls.Own.kept {x : Tls} {p : TlA} {base : Nat} {w w' : World} (h : x.Own p base w) (hb : Below w.heap.size w w') : x.Own p base w' := ⟨own_below h.1 hb, own_below h.2 hb⟩
theorem Tls.Own.mono {x : Tls} {p : TlA} {base base' : Nat} {w : World} (h : x.Own p base w) (hb : base' ≤ base) : x.Own p base' w := ⟨own_mono h.1 hb, own_mono h.2 hb⟩
theorem Tls.Own.store {x : Tls} {p : TlA} {base g : Nat} {w w' : World} (h : x.Own p base w) (hg : w.grownBy w' (some g)) (hlt : g < base) : x.Own p base w' := ⟨row_store h.1 hg hlt, row_store h.2 hg hlt⟩
def Tls.fit (x : Tls) : Prop := x.letters.size ≤ 9223372036854775807 ∧ x.values.length ≤ 9223372036854775807 ∧ x.counts.length ≤ 9223372036854775807
def Tls.sz (x : Tls) : Nat := x.letters.size + x.values.length + x.counts.length
def Tls.small (x : Tls) : Prop := x.values.length ≤ 1048576 ∧ x.counts.length ≤ 1048576
/-- two rows do not lie in one block -/
def offA (a b : Option Addr) : Prop := ∀ g, a.map (·.block) = some g → b.map (·.block) = some g → False
end Go.Proofs.YtjdcdhhbgijaoaaGreatDoor

namespace Go.Proofs.YtjdcdhhbgijaoaaGreatDoor
open Go.ChangeShapes Go.WideShapes Go.ChangeAt Go.RowKit Go.Sort

theorem all_range_no {f : Nat → Bool} {i n : Nat} (hi : i < n) (hf : f i = false) : (List.range n).all f = false := by
  rw [Bool.eq_false_iff]
  intro h
  have := List.all_eq_true.1 h i (List.mem_range.2 hi)
  rw [hf] at this
  cases this
theorem all_range_of {f : Nat → Bool} {n : Nat} (h : ∀ i, i < n → f i = true) : (List.range n).all f = true := List.all_eq_true.2 fun i hi => h i (List.mem_range.1 hi)
theorem all_range_get {f : Nat → Bool} {n : Nat} (h : (List.range n).all f = true) {i : Nat} (hi : i < n) : f i = true := List.all_eq_true.1 h i (List.mem_range.2 hi)
def lowAt (l : List UInt8) (i : Nat) : Bool := smallB ((l.getD i 0).toNat : Int)
/-- a byte is greater than the one before -/
def incB (l : List UInt8) (i : Nat) : Bool := decide (i = 0) || decide (((l.getD (i - 1) 0).toNat : Int) < ((l.getD i 0).toNat : Int))
def Tls.okAt (x : Tls) (i : Nat) : Bool := lowAt x.letters.data.toList i && (incB x.letters.data.toList i && (withinB (x.values.getD i 0) 0 20 && withinB (x.counts.getD i 0) 1 20))
def Tls.ok (x : Tls) : Bool :=
  withinB x.letters.size 1 26 && (decide (x.values.length = x.letters.size) && (decide (x.counts.length = x.letters.size) && (withinB x.blanks 0 4 && ((List.range x.letters.size).all x.okAt && decide (x.blanks + x.counts.sum ≤ 120)))))
theorem small_iff {c : Int} : smallB c = true ↔ 97 ≤ c ∧ c ≤ 122 := by unfold smallB; simp
/-- strictly increasing small letters: no more than 26 -/
theorem inc_26 {l : List UInt8} {n : Nat} (h1 : ∀ i, i < n → lowAt l i = true) (h2 : ∀ i, i < n → incB l i = true) : n ≤ 26 := by
  have h : ∀ i, i < n → (97 : Int) + i ≤ ((l.getD i 0).toNat : Int) := by
    intro i
    induction i with
    | zero => intro hi; have := (small_iff.1 (h1 0 hi)).1; omega
    | succ i ih =>
      intro hi
      have a := ih (by omega)
      have b := h2 (i + 1) hi
      unfold incB at b
      simp only [Bool.or_eq_true, decide_eq_true_eq, Nat.add_sub_cancel] at b
      omega
  by_cases hn : n ≤ 26
  · exact hn
  · have a := h 26 (by omega)
    have b := (small_iff.1 (h1 26 (by omega))).2
    omega
structure Tls.Good (x : Tls) : Prop where
  lo : 1 ≤ x.letters.size
  hi : x.letters.size ≤ 26
  values : x.values.length = x.letters.size
  counts : x.counts.length = x.letters.size
  range : ∀ i, i < x.letters.size → 0 ≤ x.values.getD i 0 ∧ x.values.getD i 0 ≤ 20
theorem Tls.good {x : Tls} (h : x.ok = true) : x.Good := by
  unfold Tls.ok at h
  simp only [Bool.and_eq_true, decide_eq_true_eq, within_iff] at h
  obtain ⟨h1, h2, h3, h4, h5, h6⟩ := h
  refine ⟨by omega, by omega, h2, h3, fun i hi => ?_⟩
  have := all_range_get h5 hi
  unfold Tls.okAt at this
  simp only [Bool.and_eq_true, within_iff] at this
  exact this.2.2.1
/-- the value of a letter -/
def Tls.val (x : Tls) (c : UInt8) : Int := if Lib.indexByte x.letters.data.toList c < 0 then 0 else x.values.getD (Lib.indexByte x.letters.data.toList c).toNat 0
theorem Tls.val_none {x : Tls} {c : UInt8} (h : Lib.indexByte x.letters.data.toList c < 0) : x.val c = 0 := by unfold Tls.val; rw [if_pos h]
theorem Tls.val_some {x : Tls} {c : UInt8} {k : Nat} (h : Lib.indexByte x.letters.data.toList c = k) : x.val c = x.values.getD k 0 := by
  unfold Tls.val
  rw [h, if_neg (by omega)]
  rfl
theorem indexByte_lt {l : List UInt8} {c : UInt8} {k : Nat} (h : Lib.indexByte l c = k) : k < l.length := by
  have := (Lib.indexByte_some h).1
  exact (List.getElem?_eq_some_iff.1 this).1
theorem Tls.Good.val_range {x : Tls} (h : x.Good) (c : UInt8) : 0 ≤ x.val c ∧ x.val c ≤ 20 := by
  have hg := Lib.indexByte_ge x.letters.data.toList c
  by_cases hn : Lib.indexByte x.letters.data.toList c < 0
  · rw [Tls.val_none hn]; omega
  · obtain ⟨k, hk⟩ := Int.eq_ofNat_of_zero_le (show 0 ≤ Lib.indexByte x.letters.data.toList c by omega)
    rw [Tls.val_some hk]
    have := indexByte_lt hk
    exact h.range k (by simpa using this)
/-- the first place of a byte, found from the left -/
theorem indexByte_at {l : List UInt8} {c : UInt8} {k : Nat} (hk : k < l.length) (h0 : ∀ j (hj : j < k), l[j]'(by omega) ≠ c) (h : l[k] = c) : Lib.indexByte l c = k := by
  have hge := Lib.indexByte_ge l c
  by_cases hn : Lib.indexByte l c = -1
  · exact absurd (by rw [List.getElem?_eq_getElem hk, h]) (Lib.indexByte_none hn k)
  · obtain ⟨j, hj⟩ := Int.eq_ofNat_of_zero_le (show 0 ≤ Lib.indexByte l c by omega)
    obtain ⟨e1, e2⟩ := Lib.indexByte_some hj
    by_cases h1 : j < k
    · obtain ⟨_, e3⟩ := List.getElem?_eq_some_iff.1 e1
      exact absurd e3 (h0 j h1)
    · by_cases h2 : k < j
      · exact absurd (by rw [List.getElem?_eq_getElem hk, h]) (e2 k h2)
      · rw [hj]; omega
theorem indexByte_out {l : List UInt8} {c : UInt8} (h0 : ∀ j (hj : j < l.length), l[j] ≠ c) : Lib.indexByte l c = -1 := by
  have hge := Lib.indexByte_ge l c
  by_cases hn : Lib.indexByte l c = -1
  · exact hn
  · obtain ⟨j, hj⟩ := Int.eq_ofNat_of_zero_le (show 0 ≤ Lib.indexByte l c by omega)
    obtain ⟨e1, _⟩ := Lib.indexByte_some hj
    obtain ⟨hl, e3⟩ := List.getElem?_eq_some_iff.1 e1
    exact absurd e3 (h0 j hl)
end Go.Proofs.YtjdcdhhbgijaoaaGreatDoor

namespace Go.Proofs.YtjdcdhhbgijaoaaGreatDoor
open Go.ChangeShapes Go.WideShapes Go.ChangeAt Go.RowKit Go.Sort

/-- a tile set lies at a block -/
def TAt (w : World) (g : Nat) (x : Tls) (q : TlA) : Prop :=
  (w.cell? ⟨g, 0, none⟩ = some (.string x.letters) ∧ w.cell? ⟨g, 1, none⟩ = some (.slice q.values.a x.values.length q.values.c) ∧ w.cell? ⟨g, 2, none⟩ = some (.slice q.counts.a x.counts.length q.counts.c) ∧ w.cell? ⟨g, 3, none⟩ = some (.int .i64 x.blanks)) ∧ x.At q w
theorem TAt.kept {w w' : World} {g : Nat} {x : Tls} {q : TlA} (h : TAt w g x q) (hb : Below w.heap.size w w') : TAt w' g x q :=
  ⟨⟨cell_kept h.1.1 hb, cell_kept h.1.2.1 hb, cell_kept h.1.2.2.1 hb, cell_kept h.1.2.2.2 hb⟩, h.2.kept hb⟩
theorem TAt.drew {w w' : World} {g : Nat} {x : Tls} {q : TlA} (h : TAt w g x q) (hb : Drew w w') : TAt w' g x q := h.kept (hb.below _)
theorem TAt.new (w : World) (x : Tls) (q : TlA) (t : TypeId) (h : x.At q w) : TAt (w.alloc (.cells #[.string x.letters, .slice q.values.a x.values.length q.values.c, .slice q.counts.a x.counts.length q.counts.c, .int .i64 x.blanks] t)) w.heap.size x q :=
  ⟨⟨cell_new0 w _ t rfl, cell_new0 w _ t rfl, cell_new0 w _ t rfl, cell_new0 w _ t rfl⟩, h.kept ((Below.refl _ _).alloc (Nat.le_refl _) _)⟩
theorem TAt.lt {w : World} {g : Nat} {x : Tls} {q : TlA} (h : TAt w g x q) : g < w.heap.size := block_lt h.1.1
/-- a number of a row of numbers -/
theorem num_cell {w : World} {a : Option Addr} {xs : List Int} (h : SliceAt w 1 I64.enc a xs) {k : Nat} (hk : k < xs.length) : ∃ b o, a = some ⟨b, o, none⟩ ∧ w.cell? ⟨b, o + k, none⟩ = some (.int .i64 (xs.getD k 0)) := by
  obtain ⟨b, o, rfl, hc⟩ := h.open hk
  have := hc.at0 hk (v := .int .i64 xs[k]) rfl
  rw [Nat.mul_one] at this
  refine ⟨b, o, rfl, ?_⟩
  rw [this, List.getD_eq_getElem?_getD, List.getElem?_eq_getElem hk]
  rfl
theorem byte_getD {s : ByteArray} {k : Nat} (h : k < s.size) : s.data.toList.getD k 0 = s[k] := by
  have hl : k < s.data.toList.length := by simpa using h
  rw [List.getD_eq_getElem?_getD, List.getElem?_eq_getElem hl]
  exact bytes_get s k h
set_option maxHeartbeats 1000000 in
theorem l02Find_any (x : Tls) (q : TlA) (g : Nat) (c : UInt8) (w : World) (ht : TAt w g x q) (hs : x.letters.size ≤ 9223372036854775807) :
    Calls Tryz.prog 246 #[.pointer (some ⟨g, 0, none⟩), .int .u8 (c.toNat : Int)] w fun e w' => e = .returned (.int .i64 (Lib.indexByte x.letters.data.toList c)) ∧ w = w' := by
  have c0 := ht.1.1
  clear ht
  have hlen : x.letters.data.toList.length = x.letters.size := by simp
  have HAT : Hid (∀ k, k < x.letters.size → (∀ j, j < k → x.letters.data.toList.getD j 0 ≠ c) → x.letters.data.toList.getD k 0 = c → Lib.indexByte x.letters.data.toList c = k) := Lib.hid (fun k hk h0 h1 => indexByte_at (by rw [hlen]; exact hk) (fun j hj => by
    have := h0 j hj
    rwa [List.getD_eq_getElem?_getD, List.getElem?_eq_getElem (by rw [hlen]; omega)] at this) (by
    rwa [List.getD_eq_getElem?_getD, List.getElem?_eq_getElem (by rw [hlen]; omega)] at h1))
  have HOUT : Hid ((∀ j, j < x.letters.size → x.letters.data.toList.getD j 0 ≠ c) → Lib.indexByte x.letters.data.toList c = -1) := Lib.hid (fun h => indexByte_out (fun j hj => by
    have := h j (by omega)
    rwa [List.getD_eq_getElem?_getD, List.getElem?_eq_getElem hj] at this))
  have HB : Hid (∀ k (h : k < x.letters.size), x.letters.data.toList.getD k 0 = x.letters[k]) := Lib.hid (fun k h => byte_getD h)
  clear hlen
  generalize Lib.indexByte x.letters.data.toList c = r at *
  generalize x.letters.data.toList = L at *
  generalize x.letters = s at *
  go_enter Tryz.func246, Tryz.ntmps246
  go_wp2_with fail
  go_loopw [5] (fun iv wr => ∃ k : Nat, k ≤ s.size ∧ iv = .int .i64 k ∧ Hid (∀ j, j < k → L.getD j 0 ≠ c) ∧ Below 0 wr wr ∧ wr = w) (fun iv _ => s.size - (intOf iv).toNat)
  case atStart => exact ⟨0, Nat.zero_le _, rfl, Lib.hid (fun j h => absurd h (Nat.not_lt_zero _)), Below.refl _ _, by trivial⟩
  case round =>
    obtain ⟨k, hk, rfl, HA, _, hw⟩ := hrel
    subst hw
    by_cases hlt : k < s.size
    · have HBK := Lib.hid (HB.out k hlt)
      cases hv : ((s[k].toNat : Int) == (c.toNat : Int)) with
      | true =>
        have HE : Hid (r = k) := Lib.hid (HAT.out k hlt HA.out (by rw [HBK.out]; exact UInt8.toNat_inj.1 (by simp at hv; omega)))
        go_wp2
        go_ret
        exact ⟨by rw [HE.out]; rfl, rfl⟩
      | false =>
        have HA2 : Hid (∀ j, j < k + 1 → L.getD j 0 ≠ c) := Lib.hid (fun j h => by
          by_cases e : j = k
          · rw [e, HBK.out]; exact fun e2 => by rw [e2] at hv; simp at hv
          · exact HA.out j (by omega))
        clear HA
        go_wp2
        go_roundw
        case rel => exact ⟨k + 1, by omega, by go_num, HA2, Below.refl _ _, by trivial⟩
        case measure => simp [intOf]; omega
    · have HE : Hid (r = -1) := Lib.hid (HOUT.out (fun j h => HA.out j (by omega)))
      go_wp2
      go_ret
      exact ⟨by rw [HE.out]; rfl, rfl⟩
set_option maxHeartbeats 1000000 in
theorem l02Value_any (x : Tls) (q : TlA) (g : Nat) (c : UInt8) (w : World) (ht : TAt w g x q) (hx : x.Good) :
    Calls Tryz.prog 189 #[.pointer (some ⟨g, 0, none⟩), .int .u8 (c.toNat : Int)] w fun e w' => e = .returned (.int .i64 (x.val c)) ∧ w = w' := by
  have hsz := hx.hi
  have HF := Lib.hid (l02Find_any x q g c w ht (by omega))
  have hge := Lib.indexByte_ge x.letters.data.toList c
  have c1 := ht.1.2.1
  by_cases hn : Lib.indexByte x.letters.data.toList c < 0
  · have HV := Lib.hid (Tls.val_none hn)
    rw [show Lib.indexByte x.letters.data.toList c = -1 by omega] at HF
    clear hn hge
    go_enter Tryz.func189, Tryz.ntmps189
    go_wp2_with fail
    refine (HF.out).mono ?_
    rintro e w' ⟨rfl, rfl⟩
    go_wp2
    go_ret
    exact ⟨by rw [HV.out]; rfl, rfl⟩
  · obtain ⟨k, hk⟩ := Int.eq_ofNat_of_zero_le (show 0 ≤ Lib.indexByte x.letters.data.toList c by omega)
    have HV := Lib.hid (Tls.val_some hk)
    have hkl : k < x.letters.size := by have := indexByte_lt hk; simpa using this
    have hkv : k < x.values.length := by rw [hx.values]; exact hkl
    obtain ⟨b, o, hab, hcell⟩ := num_cell ht.2.1 hkv
    rw [hk] at HF
    rw [hab] at c1
    rw [HV.out]
    clear hn hge hk hkl hx ht hab
    generalize x.values.getD k 0 = v at *
    go_enter Tryz.func189, Tryz.ntmps189
    go_wp2_with fail
    refine (HF.out).mono ?_
    rintro e w' ⟨rfl, rfl⟩
    go_wp2
    go_ret
    exact ⟨rfl, rfl⟩
end Go.Proofs.YtjdcdhhbgijaoaaGreatDoor

namespace Go.Proofs.YtjdcdhhbgijaoaaGreatDoor
open Go.ChangeShapes Go.WideShapes Go.ChangeAt Go.RowKit Go.Sort

theorem ok_no1 {x : Tls} (h : withinB x.letters.size 1 26 = false) : x.ok = false := by unfold Tls.ok; rw [h]; rfl
theorem ok_no2 {x : Tls} (h : ¬ x.values.length = x.letters.size) : x.ok = false := by unfold Tls.ok; rw [decide_eq_false h]; simp
theorem ok_no3 {x : Tls} (h : ¬ x.counts.length = x.letters.size) : x.ok = false := by unfold Tls.ok; rw [decide_eq_false h]; simp
theorem ok_no4 {x : Tls} (h : withinB x.blanks 0 4 = false) : x.ok = false := by unfold Tls.ok; rw [h]; simp
theorem ok_no5 {x : Tls} {k : Nat} (hk : k < x.letters.size) (h : x.okAt k = false) : x.ok = false := by unfold Tls.ok; rw [all_range_no hk h]; simp
theorem ok_yes {x : Tls} (h1 : withinB x.letters.size 1 26 = true) (h2 : x.values.length = x.letters.size) (h3 : x.counts.length = x.letters.size) (h4 : withinB x.blanks 0 4 = true) (h5 : ∀ i, i < x.letters.size → x.okAt i = true) : x.ok = decide (x.blanks + x.counts.sum ≤ 120) := by
  unfold Tls.ok
  rw [h1, decide_eq_true h2, decide_eq_true h3, h4, all_range_of h5]
  simp
theorem sum_take {xs : List Int} {k : Nat} (h : k < xs.length) : (xs.take (k + 1)).sum = (xs.take k).sum + xs.getD k 0 := by
  rw [List.take_succ_eq_append_getElem h, List.sum_append, List.getD_eq_getElem?_getD, List.getElem?_eq_getElem h]
  simp
set_option maxRecDepth 100000 in
set_option maxHeartbeats 8000000 in
theorem l02Ok_any (x : Tls) (q : TlA) (g : Nat) (w : World) (ht : TAt w g x q) (hf : x.fit) :
    Calls Tryz.prog 88 #[.pointer (some ⟨g, 0, none⟩)] w fun e w' => e = .returned (.bool x.ok) ∧ Drew w w' := by
  obtain ⟨hf1, hf2, hf3⟩ := hf
  have HT := Lib.hid ht
  obtain ⟨c0, c1, c2, c3⟩ := ht.1
  clear ht
  cases h1 : withinB x.letters.size 1 26 with
  | false =>
    have HE := Lib.hid (ok_no1 h1)
    go_enter Tryz.func88, Tryz.ntmps88
    go_wp2_with fail
    refine (l00In_any _ _ _ _).mono ?_
    rintro e w' ⟨rfl, rfl⟩
    rw [h1]
    clear h1
    go_wp2
    go_ret
    exact ⟨ret_bool HE.out.symm, Drew.refl _⟩
  | true =>
    have hsz := within_iff.1 h1
    by_cases h2 : x.values.length = x.letters.size
    case neg =>
      have HE := Lib.hid (ok_no2 h2)
      have h2' : ((x.values.length : Int) != (x.letters.size : Int)) = true := by rw [bne_iff_ne]; omega
      clear h2
      go_enter Tryz.func88, Tryz.ntmps88
      go_wp2_with fail
      refine (l00In_any _ _ _ _).mono ?_
      rintro e w' ⟨rfl, rfl⟩
      rw [h1]
      clear h1
      go_wp2
      go_ret
      exact ⟨ret_bool HE.out.symm, Drew.refl _⟩
    case pos =>
      have h2' : ((x.values.length : Int) != (x.letters.size : Int)) = false := by rw [h2]; simp
      by_cases h3 : x.counts.length = x.letters.size
      case neg =>
        have HE := Lib.hid (ok_no3 h3)
        have h3' : ((x.counts.length : Int) != (x.letters.size : Int)) = true := by rw [bne_iff_ne]; omega
        clear h2 h3
        go_enter Tryz.func88, Tryz.ntmps88
        go_wp2_with fail
        refine (l00In_any _ _ _ _).mono ?_
        rintro e w' ⟨rfl, rfl⟩
        rw [h1]
        clear h1
        go_wp2
        go_ret
        exact ⟨ret_bool HE.out.symm, Drew.refl _⟩
      case pos =>
        have h3' : ((x.counts.length : Int) != (x.letters.size : Int)) = false := by rw [h3]; simp
        cases h4 : withinB x.blanks 0 4 with
        | false =>
          have HE := Lib.hid (ok_no4 h4)
          clear h2 h3
          go_enter Tryz.func88, Tryz.ntmps88
          go_wp2_with fail
          refine (l00In_any _ _ _ _).mono ?_
          rintro e w' ⟨rfl, rfl⟩
          rw [h1]
          clear h1
          go_wp2_with fail
          refine (l00In_any _ _ _ _).mono ?_
          rintro e w' ⟨rfl, rfl⟩
          rw [h4]
          clear h4
          go_wp2
          go_ret
          exact ⟨ret_bool HE.out.symm, Drew.refl _⟩
        | true =>
          have HY := Lib.hid (ok_yes h1 h2 h3 h4)
          have hbl := within_iff.1 h4
          have H2 := Lib.hid h2
          have H3 := Lib.hid h3
          clear h2 h3
          go_enter Tryz.func88, Tryz.ntmps88
          go_wp2_with fail
          refine (l00In_any _ _ _ _).mono ?_
          rintro e w' ⟨rfl, rfl⟩
          rw [h1]
          clear h1
          go_wp2_with fail
          refine (l00In_any _ _ _ _).mono ?_
          rintro e w' ⟨rfl, rfl⟩
          rw [h4]
          clear h4
          go_wp2_with fail
          go_loopw [4, 5] (fun tv iv wr => ∃ (k : Nat) (t : Int), k ≤ x.letters.size ∧ iv = .int .i64 k ∧ tv = .int .i64 t ∧ 0 ≤ t ∧ t ≤ 4 + 20 * k ∧ Hid (∀ i, i < k → x.okAt i = true) ∧ Hid (t = x.blanks + (x.counts.take k).sum) ∧ Drew w wr) (fun _ iv _ => x.letters.size - (intOf iv).toNat)
          case atStart => exact ⟨0, x.blanks, Nat.zero_le _, rfl, rfl, hbl.1, by omega, Lib.hid (fun i h => absurd h (Nat.not_lt_zero _)), Lib.hid (by simp), Drew.refl _⟩
          case round =>
            clear c0 c1 c2 c3 h2' h3'
            obtain ⟨k, t, hk, rfl, rfl, ht0, ht1, HA, HS, hd⟩ := hrel
            by_cases hlt : k < x.letters.size
            · have hkv : k < x.values.length := by rw [H2.out]; exact hlt
              have hkc : k < x.counts.length := by rw [H3.out]; exact hlt
              obtain ⟨vb, vo, hva, vv⟩ := num_cell (HT.out.2.1.drew hd) hkv
              obtain ⟨cb, co, hca, vc⟩ := num_cell (HT.out.2.2.drew hd) hkc
              have HVA := Lib.hid hva
              have HCA := Lib.hid hca
              have c0 : wr.cell? ⟨g, 0, none⟩ = some (.string x.letters) := (hd.cell _).trans HT.out.1.1
              have c1 : wr.cell? ⟨g, 1, none⟩ = some (.slice (some ⟨vb, vo, none⟩) x.values.length q.values.c) := (hd.cell _).trans (by rw [← hva]; exact HT.out.1.2.1)
              have c2 : wr.cell? ⟨g, 2, none⟩ = some (.slice (some ⟨cb, co, none⟩) x.counts.length q.counts.c) := (hd.cell _).trans (by rw [← hca]; exact HT.out.1.2.2.1)
              clear hva hca
              have HI1 : Hid (∀ W, Calls Tryz.prog 181 #[.int .i64 (x.values.getD k 0), .int .i64 0, .int .i64 20] W fun e w' => e = .returned (.bool (withinB (x.values.getD k 0) 0 20)) ∧ W = w') := Lib.hid (fun W => l00In_any _ _ _ W)
              have HI2 : Hid (∀ W, Calls Tryz.prog 181 #[.int .i64 (x.counts.getD k 0), .int .i64 1, .int .i64 20] W fun e w' => e = .returned (.bool (withinB (x.counts.getD k 0) 1 20)) ∧ W = w') := Lib.hid (fun W => l00In_any _ _ _ W)
              have HSM : Hid (∀ W, Calls Tryz.prog 182 #[.int .u8 (x.letters[k].toNat : Int)] W fun e w' => e = .returned (.bool (smallB (x.letters[k].toNat : Int))) ∧ W = w') := Lib.hid (fun W => l01Small_any _ W)
              have HLA : Hid (lowAt x.letters.data.toList k = smallB (x.letters[k].toNat : Int)) := Lib.hid (by unfold lowAt; rw [byte_getD hlt])
              have HOK : Hid (x.okAt k = (lowAt x.letters.data.toList k && (incB x.letters.data.toList k && (withinB (x.values.getD k 0) 0 20 && withinB (x.counts.getD k 0) 1 20)))) := Lib.hid rfl
              have HST : Hid ((x.counts.take (k + 1)).sum = (x.counts.take k).sum + x.counts.getD k 0) := Lib.hid (sum_take hkc)
              generalize x.values.getD k 0 = vv0 at *
              generalize x.counts.getD k 0 = cc at *
              cases hsm : smallB (x.letters[k].toNat : Int) with
              | false =>
                have HE : Hid (x.ok = false) := Lib.hid (ok_no5 hlt (by rw [HOK.out, HLA.out, hsm]; rfl))
                rw [hsm] at HSM
                go_wp2_with fail
                go_quiet ((first | (go_at_call 182; with_reducible exact quiet_of_eq (HSM.out _)) | (go_at_call 181; with_reducible exact quiet_of_eq (HI1.out _)) | (go_at_call 181; with_reducible exact quiet_of_eq (HI2.out _))))
                go_wp2
                go_ret
                exact ⟨ret_bool HE.out.symm, hd.drewN _⟩
              | true =>
                rw [hsm] at HSM
                by_cases h0 : k = 0
                · subst h0
                  have HIN : Hid (incB x.letters.data.toList 0 = true) := Lib.hid (by unfold incB; rfl)
                  have HOA : Hid (x.okAt 0 = (withinB vv0 0 20 && withinB cc 1 20)) := Lib.hid (by rw [HOK.out, HLA.out, hsm, HIN.out]; rfl)
                  rw [Nat.add_zero] at vv vc
                  clear hsm
                  cases hv1 : withinB vv0 0 20 with
                  | false =>
                    have HE : Hid (x.ok = false) := Lib.hid (ok_no5 hlt (by rw [HOA.out, hv1]; simp))
                    rw [hv1] at HI1
                    go_wp2_with fail
                    go_quiet ((first | (go_at_call 182; with_reducible exact quiet_of_eq (HSM.out _)) | (go_at_call 181; with_reducible exact quiet_of_eq (HI1.out _)) | (go_at_call 181; with_reducible exact quiet_of_eq (HI2.out _))))
                    go_wp2
                    go_ret
                    exact ⟨ret_bool HE.out.symm, hd.drewN _⟩
                  | true =>
                    cases hv2 : withinB cc 1 20 with
                    | false =>
                      have HE : Hid (x.ok = false) := Lib.hid (ok_no5 hlt (by rw [HOA.out, hv2]; simp))
                      rw [hv1] at HI1
                      rw [hv2] at HI2
                      go_wp2_with fail
                      go_quiet ((first | (go_at_call 182; with_reducible exact quiet_of_eq (HSM.out _)) | (go_at_call 181; with_reducible exact quiet_of_eq (HI1.out _)) | (go_at_call 181; with_reducible exact quiet_of_eq (HI2.out _))))
                      go_wp2
                      go_ret
                      exact ⟨ret_bool HE.out.symm, hd.drewN _⟩
                    | true =>
                      have HA2 : Hid (∀ i, i < 0 + 1 → x.okAt i = true) := Lib.hid (fun i h => by
                        by_cases e : i = 0
                        · rw [e, HOA.out, hv1, hv2]; rfl
                        · exact HA.out i (by omega))
                      have hcr := within_iff.1 hv2
                      have HS2 : Hid (t + cc = x.blanks + (x.counts.take (0 + 1)).sum) := Lib.hid (by rw [HST.out, HS.out]; omega)
                      have hwr : IntKind.i64.wrap (t + cc) = t + cc := IntWalk.i64_in _ (by omega)
                      rw [hv1] at HI1
                      rw [hv2] at HI2
                      clear hv1 hv2 HA HS
                      go_wp2_with fail
                      go_quiet ((first | (go_at_call 182; with_reducible exact quiet_of_eq (HSM.out _)) | (go_at_call 181; with_reducible exact quiet_of_eq (HI1.out _)) | (go_at_call 181; with_reducible exact quiet_of_eq (HI2.out _))))
                      have hd2 : Drew w (wr.drewN nq) := hd.drewN _
                      have k2 : (wr.drewN nq).cell? ⟨g, 2, none⟩ = some (.slice (some ⟨cb, co, none⟩) x.counts.length q.counts.c) := (hd2.cell _).trans (by rw [← HCA.out]; exact HT.out.1.2.2.1)
                      have kc : (wr.drewN nq).cell? ⟨cb, co, none⟩ = some (.int .i64 cc) := ((show Drew wr (wr.drewN nq) from ⟨_, rfl⟩).cell _).trans vc
                      clear c0 c1 c2 vv vc
                      generalize wr.drewN nq = wa at *
                      go_wp2
                      go_roundw
                      case rel => exact ⟨0 + 1, t + cc, by omega, by go_num, rfl, by omega, by omega, HA2, HS2, hd2⟩
                      case measure => simp [intOf]; omega
                · have hb1 : (1 : Int) ≤ (k : Int) := by omega
                  have hb2 : (k : Int) - 1 < (x.letters.size : Int) := by omega
                  have hb3 : ((k : Int) - 1).toNat = k - 1 := by omega
                  have hb4 : (0 : Int) < (k : Int) := by omega
                  have hb5 : 0 < k := by omega
                  have hb6 : k - 1 < x.letters.size := by omega
                  have HIN : Hid (incB x.letters.data.toList k = decide ((x.letters[k - 1].toNat : Int) < (x.letters[k].toNat : Int))) := Lib.hid (by
                    unfold incB
                    rw [decide_eq_false h0, Bool.false_or, byte_getD hlt, byte_getD hb6])
                  clear h0
                  by_cases hin : (x.letters[k - 1].toNat : Int) < (x.letters[k].toNat : Int)
                  · have HOA : Hid (x.okAt k = (withinB vv0 0 20 && withinB cc 1 20)) := Lib.hid (by rw [HOK.out, HLA.out, hsm, HIN.out, decide_eq_true hin]; rfl)
                    have hin2 : decide ((x.letters[k].toNat : Int) ≤ (x.letters[k - 1].toNat : Int)) = false := decide_eq_false (by omega)
                    have hin3 : decide (x.letters[k].toNat ≤ x.letters[k - 1].toNat) = false := decide_eq_false (by omega)
                    have hin4 : decide (x.letters[k] ≤ x.letters[k - 1]) = false := decide_eq_false (by rw [UInt8.le_iff_toNat_le]; omega)
                    clear hsm
                    cases hv1 : withinB vv0 0 20 with
                    | false =>
                      have HE : Hid (x.ok = false) := Lib.hid (ok_no5 hlt (by rw [HOA.out, hv1]; simp))
                      rw [hv1] at HI1
                      go_wp2_with fail
                      go_quiet ((first | (go_at_call 182; with_reducible exact quiet_of_eq (HSM.out _)) | (go_at_call 181; with_reducible exact quiet_of_eq (HI1.out _)) | (go_at_call 181; with_reducible exact quiet_of_eq (HI2.out _))))
                      go_wp2
                      go_ret
                      exact ⟨ret_bool HE.out.symm, hd.drewN _⟩
                    | true =>
                      cases hv2 : withinB cc 1 20 with
                      | false =>
                        have HE : Hid (x.ok = false) := Lib.hid (ok_no5 hlt (by rw [HOA.out, hv2]; simp))
                        rw [hv1] at HI1
                        rw [hv2] at HI2
                        go_wp2_with fail
                        go_quiet ((first | (go_at_call 182; with_reducible exact quiet_of_eq (HSM.out _)) | (go_at_call 181; with_reducible exact quiet_of_eq (HI1.out _)) | (go_at_call 181; with_reducible exact quiet_of_eq (HI2.out _))))
                        go_wp2
                        go_ret
                        exact ⟨ret_bool HE.out.symm, hd.drewN _⟩
                      | true =>
                        have HA2 : Hid (∀ i, i < k + 1 → x.okAt i = true) := Lib.hid (fun i h => by
                          by_cases e : i = k
                          · rw [e, HOA.out, hv1, hv2]; rfl
                          · exact HA.out i (by omega))
                        have hcr := within_iff.1 hv2
                        have HS2 : Hid (t + cc = x.blanks + (x.counts.take (k + 1)).sum) := Lib.hid (by rw [HST.out, HS.out]; omega)
                        have hwr : IntKind.i64.wrap (t + cc) = t + cc := IntWalk.i64_in _ (by omega)
                        rw [hv1] at HI1
                        rw [hv2] at HI2
                        clear hv1 hv2 HA HS
                        go_wp2_with fail
                        go_quiet ((first | (go_at_call 182; with_reducible exact quiet_of_eq (HSM.out _)) | (go_at_call 181; with_reducible exact quiet_of_eq (HI1.out _)) | (go_at_call 181; with_reducible exact quiet_of_eq (HI2.out _))))
                        have hd2 : Drew w (wr.drewN nq) := hd.drewN _
                        have k2 : (wr.drewN nq).cell? ⟨g, 2, none⟩ = some (.slice (some ⟨cb, co, none⟩) x.counts.length q.counts.c) := (hd2.cell _).trans (by rw [← HCA.out]; exact HT.out.1.2.2.1)
                        have kc : (wr.drewN nq).cell? ⟨cb, co + k, none⟩ = some (.int .i64 cc) := ((show Drew wr (wr.drewN nq) from ⟨_, rfl⟩).cell _).trans vc
                        clear c0 c1 c2 vv vc
                        generalize wr.drewN nq = wa at *
                        go_wp2
                        go_roundw
                        case rel => exact ⟨k + 1, t + cc, by omega, by go_num, rfl, by omega, by omega, HA2, HS2, hd2⟩
                        case measure => simp [intOf]; omega
                  · have HE : Hid (x.ok = false) := Lib.hid (ok_no5 hlt (by rw [HOK.out, HLA.out, hsm, HIN.out, decide_eq_false hin]; rfl))
                    have hin2 : (x.letters[k].toNat : Int) ≤ (x.letters[k - 1].toNat : Int) := by omega
                    clear hsm
                    go_wp2_with fail
                    go_quiet ((first | (go_at_call 182; with_reducible exact quiet_of_eq (HSM.out _)) | (go_at_call 181; with_reducible exact quiet_of_eq (HI1.out _)) | (go_at_call 181; with_reducible exact quiet_of_eq (HI2.out _))))
                    go_wp2
                    go_ret
                    exact ⟨ret_bool HE.out.symm, hd.drewN _⟩
            · obtain rfl : k = x.letters.size := by omega
              have hs := HS.out
              rw [List.take_of_length_le (by rw [H3.out]; exact Nat.le_refl _)] at hs
              have HE : Hid (x.ok = decide (t ≤ 120)) := Lib.hid (by rw [HY.out HA.out, hs])
              clear HS hs
              go_wp2
              go_ret
              exact ⟨ret_bool HE.out.symm, hd⟩
end Go.Proofs.YtjdcdhhbgijaoaaGreatDoor

namespace Go.Proofs.YtjdcdhhbgijaoaaGreatDoor
open Go.ChangeShapes Go.WideShapes Go.ChangeAt Go.RowKit Go.Sort

/-- strictly increasing small letters -/
def risB (s : ByteArray) : Bool := (List.range s.size).all (incB s.data.toList) && s.data.toList.all (fun c => smallB c.toNat)
theorem ris_no {s : ByteArray} {k : Nat} (hk : k < s.size) (h : incB s.data.toList k = false) : risB s = false := by unfold risB; rw [all_range_no hk h]; rfl
theorem ris_end {s : ByteArray} (h : ∀ i, i < s.size → incB s.data.toList i = true) : risB s = s.data.toList.all (fun c => smallB c.toNat) := by unfold risB; rw [all_range_of h]; rfl
theorem low_all_range (s : ByteArray) : s.data.toList.all (fun c => smallB c.toNat) = (List.range s.size).all (lowAt s.data.toList) := by
  rw [Bool.eq_iff_iff, List.all_eq_true, List.all_eq_true]
  constructor
  · intro h i hi
    have hi := List.mem_range.1 hi
    unfold lowAt
    rw [byte_getD hi]
    exact h _ (by rw [← bytes_get s i hi]; exact List.getElem_mem _)
  · intro h c hc
    obtain ⟨i, hi, rfl⟩ := List.getElem_of_mem hc
    have hi2 : i < s.size := by simpa using hi
    have h1 := h i (List.mem_range.2 hi2)
    unfold lowAt at h1
    rw [byte_getD hi2] at h1
    rw [bytes_get s i hi2]
    exact h1
/-- the tests that the program makes, one behind the other -/
theorem ok_impl (x : Tls) : x.ok = (decide (1 ≤ x.letters.size) && (risB x.letters && (decide (x.values.length = x.letters.size) && (decide (x.counts.length = x.letters.size) && (withinB x.blanks 0 4 && ((List.range x.letters.size).all (fun i => withinB (x.values.getD i 0) 0 20 && withinB (x.counts.getD i 0) 1 20) && decide (x.blanks + x.counts.sum ≤ 120))))))) := by
  have hall : (List.range x.letters.size).all x.okAt = (risB x.letters && (List.range x.letters.size).all (fun i => withinB (x.values.getD i 0) 0 20 && withinB (x.counts.getD i 0) 1 20)) := by
    unfold risB
    rw [low_all_range, Bool.eq_iff_iff]
    simp only [Bool.and_eq_true, List.all_eq_true, List.mem_range, Tls.okAt]
    constructor
    · intro h
      exact ⟨⟨fun i hi => (h i hi).2.1, fun i hi => (h i hi).1⟩, fun i hi => (h i hi).2.2⟩
    · rintro ⟨⟨h1, h2⟩, h3⟩ i hi
      exact ⟨h2 i hi, h1 i hi, h3 i hi⟩
  by_cases hr : risB x.letters = true
  · have hn : x.letters.size ≤ 26 := by
      unfold risB at hr
      rw [low_all_range] at hr
      simp only [Bool.and_eq_true] at hr
      exact inc_26 (fun i hi => all_range_get hr.2 hi) (fun i hi => all_range_get hr.1 hi)
    unfold Tls.ok
    rw [hall, hr]
    have : withinB x.letters.size 1 26 = decide (1 ≤ x.letters.size) := by
      rw [Bool.eq_iff_iff, within_iff, decide_eq_true_eq]; omega
    rw [this]
    simp
  · have hr : risB x.letters = false := by simpa using hr
    unfold Tls.ok
    rw [hall, hr]
    simp
set_option maxHeartbeats 2000000 in
theorem rising_any (s : ByteArray) (w : World) (hs : s.size ≤ 1048576) :
    Calls Tryz.prog 193 #[.string s] w fun e w' => e = .returned (.bool (risB s)) ∧ Below w.heap.size w w' := by
  have HOS : Hid (∀ W, Calls Tryz.prog 247 #[.string s] W fun e w' => e = .returned (.bool (s.data.toList.all fun c => smallB c.toNat)) ∧ Below W.heap.size W w') := Lib.hid (fun W => onlySmall_any s W (by omega))
  have HE := Lib.hid (ris_end (s := s))
  generalize (s.data.toList.all fun c => smallB c.toNat) = al at HOS HE
  go_enter Tryz.func193, Tryz.ntmps193
  go_wp2_with fail
  go_loopw [3] (fun iv wr => ∃ k : Nat, 1 ≤ k ∧ (k ≤ s.size ∨ s.size < 1) ∧ iv = .int .i64 k ∧ k ≤ s.size + 1 ∧ Hid (∀ i, i < k → incB s.data.toList i = true) ∧ Drew w wr) (fun iv _ => s.size + 1 - (intOf iv).toNat)
  case atStart => exact ⟨1, Nat.le_refl _, by omega, rfl, by omega, Lib.hid (fun i h => by
    obtain rfl : i = 0 := by omega
    unfold incB; rfl), Drew.refl _⟩
  case round =>
    obtain ⟨k, h1, h2, rfl, h3, HA, hd⟩ := hrel
    by_cases hlt : k < s.size
    · have hb1 : (1 : Int) ≤ (k : Int) := by omega
      have hb2 : (k : Int) - 1 < (s.size : Int) := by omega
      have hb3 : ((k : Int) - 1).toNat = k - 1 := by omega
      have hb4 : k - 1 < s.size := by omega
      have HIN : Hid (incB s.data.toList k = decide ((s[k - 1].toNat : Int) < (s[k].toNat : Int))) := Lib.hid (by
        unfold incB
        rw [decide_eq_false (show ¬ k = 0 by omega), Bool.false_or, byte_getD hlt, byte_getD hb4])
      by_cases hin : (s[k - 1].toNat : Int) < (s[k].toNat : Int)
      · have HA2 : Hid (∀ i, i < k + 1 → incB s.data.toList i = true) := Lib.hid (fun i h => by
          by_cases e : i = k
          · rw [e, HIN.out, decide_eq_true hin]
          · exact HA.out i (by omega))
        have hin2 : decide ((s[k].toNat : Int) ≤ (s[k - 1].toNat : Int)) = false := decide_eq_false (by omega)
        have hin3 : decide (s[k].toNat ≤ s[k - 1].toNat) = false := decide_eq_false (by omega)
        have hin4 : decide (s[k] ≤ s[k - 1]) = false := decide_eq_false (by rw [UInt8.le_iff_toNat_le]; omega)
        clear HA
        go_wp2_with fail
        go_quiet (fail)
        go_wp2
        go_roundw
        case rel => exact ⟨k + 1, by omega, by omega, by go_num, by omega, HA2, hd.drewN _⟩
        case measure => simp [intOf]; omega
      · have HN : Hid (risB s = false) := Lib.hid (ris_no hlt (by rw [HIN.out, decide_eq_false hin]))
        have hin2 : (s[k].toNat : Int) ≤ (s[k - 1].toNat : Int) := by omega
        clear hin
        go_wp2_with fail
        go_quiet (fail)
        go_wp2
        go_ret
        exact ⟨ret_bool HN.out.symm, (hd.drewN _).below _⟩
    · have HN := Lib.hid (HE.out (fun i hi => HA.out i (by omega)))
      go_wp2_with fail
      refine (HOS.out _).mono ?_
      rintro e w' ⟨rfl, hd2⟩
      have hb := (hd.below w.heap.size).trans (hd2.mono (hd.below w.heap.size).size)
      clear hd hd2
      go_wp2
      go_ret
      exact ⟨ret_bool HN.out.symm, hb⟩
set_option maxHeartbeats 1000000 in
theorem valueOf_any (x : Tls) (q : TlA) (c : UInt8) (w : World) (ha : x.At q w) (hx : x.Good) :
    Calls Tryz.prog 185 #[.agg #[.string x.letters, .slice q.values.a x.values.length q.values.c, .slice q.counts.a x.counts.length q.counts.c, .int .i64 x.blanks], .int .u8 (c.toNat : Int)] w fun e w' => e = .returned (.int .i64 (x.val c)) ∧ Below w.heap.size w w' := by
  have hsz := hx.hi
  have hb : Below w.heap.size w (w.alloc (.cells #[.string x.letters, .slice q.values.a x.values.length q.values.c, .slice q.counts.a x.counts.length q.counts.c, .int .i64 x.blanks] 44)) := (Below.refl _ _).alloc (Nat.le_refl _) _
  have HT := Lib.hid (TAt.new w x q 44 ha)
  have hge := Lib.indexByte_ge x.letters.data.toList c
  have HI : Hid (∀ W, Calls Tryz.prog 234 #[.string x.letters, .int .u8 (c.toNat : Int)] W fun e w' => e = .returned (.int .i64 (Lib.indexByte x.letters.data.toList c)) ∧ Drew W w') := Lib.hid (fun W => by
    have := Tryz.strings_IndexByte x.letters (c.toNat : Int) W
    rw [show ((c.toNat : Int).toNat).toUInt8 = c by simp] at this
    exact this.mono (fun e w' h => ⟨h.1, h.2 ▸ Drew.refl _⟩))
  by_cases hn : Lib.indexByte x.letters.data.toList c < 0
  · have HV := Lib.hid (Tls.val_none hn)
    rw [show Lib.indexByte x.letters.data.toList c = -1 by omega] at HI
    clear hn hge
    go_enter Tryz.func185, Tryz.ntmps185
    go_upto_region 1 with fail
    generalize w.alloc (.cells #[.string x.letters, .slice q.values.a x.values.length q.values.c, .slice q.counts.a x.counts.length q.counts.c, .int .i64 x.blanks] 44) = w1 at *
    have c0 := HT.out.1.1
    go_wp2_with fail
    refine (HI.out _).mono ?_
    rintro e w' ⟨rfl, hdq⟩
    have hd : Below w1.heap.size w1 w' := Drew.below hdq _
    replace hb := hb.trans (hd.mono hb.size)
    clear hdq hd c0
    go_wp2
    go_ret
    exact ⟨by rw [HV.out]; rfl, hb⟩
  · obtain ⟨k, hk⟩ := Int.eq_ofNat_of_zero_le (show 0 ≤ Lib.indexByte x.letters.data.toList c by omega)
    have HV := Lib.hid (Tls.val_some hk)
    have hkl : k < x.letters.size := by have := indexByte_lt hk; simpa using this
    have hkv : k < x.values.length := by rw [hx.values]; exact hkl
    rw [hk] at HI
    rw [HV.out]
    obtain ⟨v, hv⟩ : ∃ v, x.values.getD k 0 = v := ⟨_, rfl⟩
    rw [hv]
    have HVV := Lib.hid hv
    clear hn hge hk hkl hx HV hv
    go_enter Tryz.func185, Tryz.ntmps185
    go_upto_region 1 with fail
    generalize w.alloc (.cells #[.string x.letters, .slice q.values.a x.values.length q.values.c, .slice q.counts.a x.counts.length q.counts.c, .int .i64 x.blanks] 44) = w1 at *
    have c0 := HT.out.1.1
    go_wp2_with fail
    refine (HI.out _).mono ?_
    rintro e w' ⟨rfl, hdq⟩
    replace HT := Lib.hid (HT.out.drew hdq)
    have hd : Below w1.heap.size w1 w' := Drew.below hdq _
    replace hb := hb.trans (hd.mono hb.size)
    clear hdq hd c0
    obtain ⟨b, o, hab, hcell⟩ := num_cell HT.out.2.1 hkv
    have c1 := HT.out.1.2.1
    rw [hab] at c1
    rw [HVV.out] at hcell
    clear hab
    go_wp2
    go_ret
    exact ⟨rfl, hb⟩
set_option maxRecDepth 100000 in
set_option maxHeartbeats 4000000 in
theorem ValidTiles_any (x : Tls) (q : TlA) (w : World) (ha : x.At q w) (hf : x.fit) (hs : x.letters.size ≤ 1048576) :
    Calls Tryz.prog 102 #[.agg #[.string x.letters, .slice q.values.a x.values.length q.values.c, .slice q.counts.a x.counts.length q.counts.c, .int .i64 x.blanks]] w fun e w' => e = .returned (.bool x.ok) ∧ Below w.heap.size w w' := by
  obtain ⟨hf1, hf2, hf3⟩ := hf
  have hb : Below w.heap.size w (w.alloc (.cells #[.string x.letters, .slice q.values.a x.values.length q.values.c, .slice q.counts.a x.counts.length q.counts.c, .int .i64 x.blanks] 44)) := (Below.refl _ _).alloc (Nat.le_refl _) _
  have HT := Lib.hid (TAt.new w x q 44 ha)
  have HOK := Lib.hid (ok_impl x)
  have HRI : Hid (∀ W, Calls Tryz.prog 193 #[.string x.letters] W fun e w' => e = .returned (.bool (risB x.letters)) ∧ Below W.heap.size W w') := Lib.hid (fun W => rising_any x.letters W hs)
  clear ha
  by_cases h1 : 1 ≤ x.letters.size
  case neg =>
    have HE : Hid (x.ok = false) := Lib.hid (by rw [HOK.out, decide_eq_false h1]; rfl)
    have h1' : decide ((x.letters.size : Int) < 1) = true := decide_eq_true (by omega)
    have h1'' : (x.letters.size : Int) < 1 := by omega
    clear h1
    go_enter Tryz.func102, Tryz.ntmps102
    go_upto_region 1 with fail
    generalize w.alloc (.cells #[.string x.letters, .slice q.values.a x.values.length q.values.c, .slice q.counts.a x.counts.length q.counts.c, .int .i64 x.blanks] 44) = w1 at *
    obtain ⟨c0, c1, c2, c3⟩ := HT.out.1
    go_wp2
    go_ret
    exact ⟨ret_bool HE.out.symm, hb⟩
  case pos =>
    have h1' : decide ((x.letters.size : Int) < 1) = false := decide_eq_false (by omega)
    have h1n : decide (x.letters.size < 1) = false := decide_eq_false (by omega)
    have h1z : decide (x.letters.size = 0) = false := decide_eq_false (by omega)
    cases hr : risB x.letters with
    | false =>
      have HE : Hid (x.ok = false) := Lib.hid (by rw [HOK.out, hr]; simp)
      rw [hr] at HRI
      go_enter Tryz.func102, Tryz.ntmps102
      go_upto_region 1 with fail
      generalize w.alloc (.cells #[.string x.letters, .slice q.values.a x.values.length q.values.c, .slice q.counts.a x.counts.length q.counts.c, .int .i64 x.blanks] 44) = w1 at *
      obtain ⟨c0, c1, c2, c3⟩ := HT.out.1
      go_wp2_with fail
      refine (HRI.out _).mono ?_
      rintro e w' ⟨rfl, hd⟩
      replace hb := hb.trans (hd.mono hb.size)
      clear hd
      go_wp2
      go_ret
      exact ⟨ret_bool HE.out.symm, hb⟩
    | true =>
      rw [hr] at HRI
      by_cases h2 : x.values.length = x.letters.size
      case neg =>
        have HE : Hid (x.ok = false) := Lib.hid (by rw [HOK.out, decide_eq_false h2]; simp)
        have h2' : ((x.values.length : Int) != (x.letters.size : Int)) = true := by rw [bne_iff_ne]; omega
        clear h2
        go_enter Tryz.func102, Tryz.ntmps102
        go_upto_region 1 with fail
        generalize w.alloc (.cells #[.string x.letters, .slice q.values.a x.values.length q.values.c, .slice q.counts.a x.counts.length q.counts.c, .int .i64 x.blanks] 44) = w1 at *
        obtain ⟨c0, c1, c2, c3⟩ := HT.out.1
        go_wp2_with fail
        refine (HRI.out _).mono ?_
        rintro e w' ⟨rfl, hd⟩
        replace HT := Lib.hid (HT.out.kept hd)
        replace hb := hb.trans (hd.mono hb.size)
        clear hd c0 c1 c2 c3
        obtain ⟨c0, c1, c2, c3⟩ := HT.out.1
        go_wp2
        go_ret
        exact ⟨ret_bool HE.out.symm, hb⟩
      case pos =>
        have h2' : ((x.values.length : Int) != (x.letters.size : Int)) = false := by rw [h2]; simp
        by_cases h3 : x.counts.length = x.letters.size
        case neg =>
          have HE : Hid (x.ok = false) := Lib.hid (by rw [HOK.out, decide_eq_false h3]; simp)
          have h3' : ((x.counts.length : Int) != (x.letters.size : Int)) = true := by rw [bne_iff_ne]; omega
          clear h2 h3
          go_enter Tryz.func102, Tryz.ntmps102
          go_upto_region 1 with fail
          generalize w.alloc (.cells #[.string x.letters, .slice q.values.a x.values.length q.values.c, .slice q.counts.a x.counts.length q.counts.c, .int .i64 x.blanks] 44) = w1 at *
          obtain ⟨c0, c1, c2, c3⟩ := HT.out.1
          go_wp2_with fail
          refine (HRI.out _).mono ?_
          rintro e w' ⟨rfl, hd⟩
          replace HT := Lib.hid (HT.out.kept hd)
          replace hb := hb.trans (hd.mono hb.size)
          clear hd c0 c1 c2 c3
          obtain ⟨c0, c1, c2, c3⟩ := HT.out.1
          go_wp2
          go_ret
          exact ⟨ret_bool HE.out.symm, hb⟩
        case pos =>
          have h3' : ((x.counts.length : Int) != (x.letters.size : Int)) = false := by rw [h3]; simp
          have H2 := Lib.hid h2
          have H3 := Lib.hid h3
          clear h2 h3
          cases h4 : withinB x.blanks 0 4 with
          | false =>
            have HE : Hid (x.ok = false) := Lib.hid (by rw [HOK.out, h4]; simp)
            go_enter Tryz.func102, Tryz.ntmps102
            go_upto_region 1 with fail
            generalize w.alloc (.cells #[.string x.letters, .slice q.values.a x.values.length q.values.c, .slice q.counts.a x.counts.length q.counts.c, .int .i64 x.blanks] 44) = w1 at *
            obtain ⟨c0, c1, c2, c3⟩ := HT.out.1
            go_wp2_with fail
            refine (HRI.out _).mono ?_
            rintro e w' ⟨rfl, hd⟩
            replace HT := Lib.hid (HT.out.kept hd)
            replace hb := hb.trans (hd.mono hb.size)
            clear hd c0 c1 c2 c3
            obtain ⟨c0, c1, c2, c3⟩ := HT.out.1
            go_wp2_with fail
            refine (within_any _ _ _ _).mono ?_
            rintro e w'' ⟨rfl, rfl⟩
            rw [h4]
            clear h4
            go_wp2
            go_ret
            exact ⟨ret_bool HE.out.symm, hb⟩
          | true =>
            have hbl := within_iff.1 h4
            have HY : Hid (x.ok = ((List.range x.letters.size).all (fun i => withinB (x.values.getD i 0) 0 20 && withinB (x.counts.getD i 0) 1 20) && decide (x.blanks + x.counts.sum ≤ 120))) := Lib.hid (by
              rw [HOK.out, decide_eq_true h1, hr, decide_eq_true H2.out, decide_eq_true H3.out, h4]; rfl)
            clear HOK hr
            have h26 : x.letters.size ≤ 1048576 := hs
            go_enter Tryz.func102, Tryz.ntmps102
            go_upto_region 1 with fail
            generalize w.alloc (.cells #[.string x.letters, .slice q.values.a x.values.length q.values.c, .slice q.counts.a x.counts.length q.counts.c, .int .i64 x.blanks] 44) = w1 at *
            obtain ⟨c0, c1, c2, c3⟩ := HT.out.1
            go_wp2_with fail
            refine (HRI.out _).mono ?_
            rintro e w' ⟨rfl, hd⟩
            replace HT := Lib.hid (HT.out.kept hd)
            replace hb := hb.trans (hd.mono hb.size)
            clear hd c0 c1 c2 c3
            obtain ⟨c0, c1, c2, c3⟩ := HT.out.1
            go_wp2_with fail
            refine (within_any _ _ _ _).mono ?_
            rintro e w'' ⟨rfl, rfl⟩
            rw [h4]
            clear h4
            clear c0 c1 c2 c3 h1' h1n h1z h2' h3' hf1 hf2 hf3
            have c2 := HT.out.1.2.2.1
            have c3 := HT.out.1.2.2.2
            obtain ⟨f, hfd⟩ : ∃ f : Nat → Bool, ∀ i, f i = (withinB (x.values.getD i 0) 0 20 && withinB (x.counts.getD i 0) 1 20) := ⟨_, fun _ => rfl⟩
            have HFD := Lib.hid hfd
            have HYN : Hid (∀ k, k < x.letters.size → f k = false → x.ok = false) := Lib.hid (fun k hk h => by
              rw [HY.out, all_range_no hk (by rw [← hfd k]; exact h)]; rfl)
            have HYY : Hid ((∀ i, i < x.letters.size → f i = true) → x.ok = decide (x.blanks + x.counts.sum ≤ 120)) := Lib.hid (fun h => by
              rw [HY.out, all_range_of (fun i hi => by rw [← hfd i]; exact h i hi)]; rfl)
            have HCT : Hid (∀ k, k < x.counts.length → (x.counts.take (k + 1)).sum = (x.counts.take k).sum + x.counts.getD k 0) := Lib.hid (fun k h => sum_take h)
            clear hfd HY
            go_wp2_with fail
            go_loopw [4, 43] (fun tv iv wr => ∃ (k : Nat) (t : Int), k ≤ x.counts.length ∧ iv = .int .i64 k ∧ tv = .int .i64 t ∧ 0 ≤ t ∧ t ≤ 4 + 20 * k ∧ Hid (∀ i, i < k → f i = true) ∧ Hid (t = x.blanks + (x.counts.take k).sum) ∧ Hid (TAt wr w.heap.size x q) ∧ Below w.heap.size w wr) (fun _ iv _ => x.counts.length - (intOf iv).toNat)
            case atStart => exact ⟨0, x.blanks, Nat.zero_le _, rfl, rfl, hbl.1, by omega, Lib.hid (fun i h => absurd h (Nat.not_lt_zero _)), Lib.hid (by simp), HT, hb⟩
            case round =>
              clear c2 c3 HT hb
              obtain ⟨k, t, hk, rfl, rfl, ht0, ht1, HA, HS, HT, hb⟩ := hrel
              by_cases hkc : k < x.counts.length
              · have hlt : k < x.letters.size := by rw [← H3.out]; exact hkc
                have hkv : k < x.values.length := by rw [H2.out]; exact hlt
                obtain ⟨vb, vo, hva, vv⟩ := num_cell HT.out.2.1 hkv
                obtain ⟨cb, co, hca, vc⟩ := num_cell HT.out.2.2 hkc
                have c1 := HT.out.1.2.1
                rw [hva] at c1
                have HCA := Lib.hid hca
                clear hva
                have HNO := Lib.hid (HYN.out k hlt)
                have HFK := Lib.hid (HFD.out k)
                have HST := Lib.hid (HCT.out k hkc)
                have hkl : x.counts.length ≤ 1048576 := by rw [H3.out]; exact h26
                generalize x.values.getD k 0 = v0 at *
                generalize x.counts.getD k 0 = cc at *
                cases hv1 : withinB v0 0 20 with
                | false =>
                  have HE : Hid (x.ok = false) := Lib.hid (HNO.out (by rw [HFK.out, hv1]; rfl))
                  clear HNO HFK HST
                  go_wp2_with fail
                  refine (within_any _ _ _ _).mono ?_
                  rintro e wz ⟨rfl, rfl⟩
                  rw [hv1]
                  clear hv1
                  go_wp2
                  go_ret
                  exact ⟨ret_bool HE.out.symm, hb⟩
                | true =>
                  cases hv2 : withinB cc 1 20 with
                  | false =>
                    have HE : Hid (x.ok = false) := Lib.hid (HNO.out (by rw [HFK.out, hv2]; simp))
                    clear HNO HFK HST
                    go_wp2_with fail
                    refine (within_any _ _ _ _).mono ?_
                    rintro e wz ⟨rfl, rfl⟩
                    rw [hv1]
                    clear hv1
                    go_wp2_with fail
                    refine (within_any _ _ _ _).mono ?_
                    rintro e wz ⟨rfl, rfl⟩
                    rw [hv2]
                    clear hv2
                    go_wp2
                    go_ret
                    exact ⟨ret_bool HE.out.symm, hb⟩
                  | true =>
                    have hcr := within_iff.1 hv2
                    have HA2 : Hid (∀ i, i < k + 1 → f i = true) := Lib.hid (fun i h => by
                      by_cases e : i = k
                      · rw [e, HFK.out, hv1, hv2]; rfl
                      · exact HA.out i (by omega))
                    have HS2 : Hid (t + cc = x.blanks + (x.counts.take (k + 1)).sum) := Lib.hid (by rw [HST.out, HS.out]; omega)
                    have hwr : IntKind.i64.wrap (t + cc) = t + cc := IntWalk.i64_in _ (by omega)
                    clear HNO HFK HST HA HS
                    go_wp2_with fail
                    refine (within_any _ _ _ _).mono ?_
                    rintro e wz ⟨rfl, rfl⟩
                    rw [hv1]
                    clear hv1
                    go_wp2_with fail
                    refine (within_any _ _ _ _).mono ?_
                    rintro e wz ⟨rfl, rfl⟩
                    rw [hv2]
                    clear hv2
                    go_wp2
                    clear hca
                    rw [← HCA.out]
                    go_roundw
                    case rel => exact ⟨k + 1, t + cc, by omega, by go_num, rfl, by omega, by omega, HA2, HS2, HT, hb⟩
                    case measure => simp [intOf]; omega
              · have hs := HS.out
                rw [List.take_of_length_le (by omega)] at hs
                have HE : Hid (x.ok = decide (t ≤ 120)) := Lib.hid (by rw [HYY.out (fun i hi => HA.out i (by have := H3.out; omega)), hs])
                clear HS hs
                go_wp2
                go_ret
                exact ⟨ret_bool HE.out.symm, hb⟩
end Go.Proofs.YtjdcdhhbgijaoaaGreatDoor
