/- Contracts: words, long words, valid lexicons: the reference's and the program's. No condition but bounds on sizes. · Plain: a word in an increasing list, found from the left or by halves. No condition. · Contracts: the reference's look-up in a lexicon; the words that a valid play forms and a valid lexicon does not have. -/
import Derived.Test.YtjdcdhhbgijaoaaGreatDoorVar
import Derived.Test.YtjdcdhhbgijaoaaGreatDoorFrame
import Derived.Sort.Walk0
import Derived.Shelf.Spec.SearchS
namespace Go.Proofs.YtjdcdhhbgijaoaaGreatDoor
open Go.ChangeShapes Go.WideShapes Go.ChangeAt Go.RowKit Go.Sort

def wordL (l : List UInt8) : Bool := decide (1 ≤ l.length) && decide (l.length ≤ 12) && l.all fun c => smallB c.toNat
def longL (l : List UInt8) : Bool := decide (2 ≤ l.length) && wordL l
theorem word_short {l : List UInt8} (h : l.length < 1) : wordL l = false := by
  unfold wordL; rw [decide_eq_false (by omega)]; rfl
theorem word_long {l : List UInt8} (h : 12 < l.length) : wordL l = false := by
  unfold wordL; rw [decide_eq_false (p := l.length ≤ 12) (by omega)]; simp
set_option maxHeartbeats 1000000 in
theorem onlySmall_any (s : ByteArray) (w : World) (hs : s.size ≤ 9223372036854775807) : Calls Tryz.prog 247 #[.string s] w fun e w' => e = .returned (.bool (s.data.toList.all fun c => smallB c.toNat)) ∧ Below w.heap.size w w' := by
  have hl : s.data.toList.length = s.size := by simp
  have HL := Lib.hid hl
  clear hl
  obtain ⟨cap, w1, hc, hcv, hr, hb⟩ := bytes_of s w
  have HR := Lib.hid hr
  clear hr
  go_enter Tryz.func247, Tryz.ntmps247
  go_wp2_with fail
  clear hcv
  go_loopw [8] (fun i wr => ∃ k : Nat, k ≤ s.size ∧ i = .int .i64 k ∧ Hid ((s.data.toList.take k).all (fun c => smallB c.toNat) = true) ∧ w1 = wr) (fun i _ => s.size - (intOf i).toNat)
  case atStart => exact ⟨0, Nat.zero_le _, rfl, Lib.hid rfl, rfl⟩
  case round =>
    obtain ⟨k, hk, rfl, HA, rfl⟩ := hrel
    by_cases hlt : k < s.size
    · have c0 := HR.out.cell (i := k) (by rw [HL.out]; exact hlt)
      have HG : Hid (∀ h : k < s.data.toList.length, s.data.toList[k] = s[k]) := Lib.hid (fun h => bytes_get s k hlt)
      rw [HG.out] at c0
      cases hsm : smallB (s[k].toNat : Int) with
      | false =>
        go_wp2_with fail
        refine (small_any _ _).mono ?_
        rintro e w' ⟨rfl, rfl⟩
        rw [hsm]
        have HN : Hid (s.data.toList.all (fun c => smallB c.toNat) = false) := Lib.hid (all_false_of (k := k) (p := fun c => smallB c.toNat) (by rw [HL.out]; exact hlt) (by rw [HG.out]; exact hsm))
        clear hsm
        go_wp2
        go_ret
        exact ⟨ret_bool HN.out.symm, hb⟩
      | true =>
        go_wp2_with fail
        refine (small_any _ _).mono ?_
        rintro e w' ⟨rfl, rfl⟩
        rw [hsm]
        have HN : Hid ((s.data.toList.take (k + 1)).all (fun c => smallB c.toNat) = true) := Lib.hid (by rw [take_all_succ (by rw [HL.out]; exact hlt), HA.out, Bool.true_and, HG.out]; exact hsm)
        clear hsm
        go_wp2
        go_roundw
        case rel => exact ⟨k + 1, by omega, by go_num, HN, trivial⟩
        case measure => simp [intOf]; omega
    · obtain rfl : k = s.size := by omega
      have HN : Hid (s.data.toList.all (fun c => smallB c.toNat) = true) := Lib.hid (by have h := HA.out; rwa [← HL.out, List.take_length] at h)
      go_wp2
      go_ret
      exact ⟨ret_bool HN.out.symm, hb⟩
theorem IsWord_any (s : ByteArray) (w : World) (hs : s.size ≤ 9223372036854775807) : Calls Tryz.prog 235 #[.string s] w fun e w' => e = .returned (.bool (wordL s.data.toList)) ∧ Below w.heap.size w w' := by
  have hl : s.data.toList.length = s.size := by simp
  have HL := Lib.hid hl
  clear hl
  by_cases h1 : s.size < 1
  · have HN := Lib.hid (word_short (l := s.data.toList) (by rw [HL.out]; exact h1))
    go_enter Tryz.func235, Tryz.ntmps235
    go_wp2
    go_ret
    exact ⟨ret_bool HN.out.symm, Below.refl _ _⟩
  · by_cases h2 : 12 < s.size
    · have HN := Lib.hid (word_long (l := s.data.toList) (by rw [HL.out]; exact h2))
      have h1' : (1 : Int) ≤ (s.size : Int) := by omega
      go_enter Tryz.func235, Tryz.ntmps235
      go_wp2
      go_ret
      exact ⟨ret_bool HN.out.symm, Below.refl _ _⟩
    · have HN : Hid (wordL s.data.toList = s.data.toList.all fun c => smallB c.toNat) := Lib.hid (by unfold wordL; rw [decide_eq_true (by rw [HL.out]; omega), decide_eq_true (by rw [HL.out]; omega)]; rfl)
      have h1' : (1 : Int) ≤ (s.size : Int) := by omega
      have h2' : (s.size : Int) ≤ 12 := by omega
      go_enter Tryz.func235, Tryz.ntmps235
      go_wp2_with fail
      refine (onlySmall_any s _ hs).mono ?_
      rintro e w' ⟨rfl, hd⟩
      rw [← HN.out]
      go_wp2
      go_ret
      exact ⟨rfl, hd⟩
theorem isLong_any (s : ByteArray) (w : World) (hs : s.size ≤ 9223372036854775807) : Calls Tryz.prog 164 #[.string s] w fun e w' => e = .returned (.bool (longL s.data.toList)) ∧ Below w.heap.size w w' := by
  have hl : s.data.toList.length = s.size := by simp
  have HL := Lib.hid hl
  clear hl
  by_cases h1 : 2 ≤ s.size
  · have HN : Hid (longL s.data.toList = wordL s.data.toList) := Lib.hid (by unfold longL; rw [decide_eq_true (by rw [HL.out]; omega)]; rfl)
    have h1' : (2 : Int) ≤ (s.size : Int) := by omega
    go_enter Tryz.func164, Tryz.ntmps164
    go_wp2_with fail
    refine (IsWord_any s _ hs).mono ?_
    rintro e w' ⟨rfl, hd⟩
    rw [← HN.out]
    go_wp2
    go_ret
    exact ⟨rfl, hd⟩
  · have HN : Hid (longL s.data.toList = false) := Lib.hid (by unfold longL; rw [decide_eq_false (by rw [HL.out]; omega)]; rfl)
    have h1' : (s.size : Int) < 2 := by omega
    go_enter Tryz.func164, Tryz.ntmps164
    go_wp2
    go_ret
    exact ⟨ret_bool HN.out.symm, Below.refl _ _⟩
/-- a word of a list of words: long, and greater than the one ahead of it -/
def lexAt (ws : List ByteArray) (i : Nat) : Bool := longL (ws.getD i ⟨#[]⟩).data.toList && (i == 0 || Op.bytesLess (ws.getD (i - 1) ⟨#[]⟩).toList (ws.getD i ⟨#[]⟩).toList)
def incAt (ws : List ByteArray) (i : Nat) : Bool := i == 0 || Op.bytesLess (ws.getD (i - 1) ⟨#[]⟩).toList (ws.getD i ⟨#[]⟩).toList
def lexOk (ws : List ByteArray) : Bool := (List.range ws.length).all (lexAt ws) && decide (ws.length ≤ 200)
theorem all_succ {p : Nat → Bool} {k : Nat} : (List.range (k + 1)).all p = ((List.range k).all p && p k) := by
  rw [List.range_succ, List.all_append]
  simp
theorem all_no {p : Nat → Bool} {n k : Nat} (h : k < n) (hp : p k = false) : (List.range n).all p = false := by
  rw [List.all_eq_false]
  exact ⟨k, List.mem_range.2 h, by simpa using hp⟩
theorem getD_at {ws : List ByteArray} {i : Nat} (h : i < ws.length) : ws.getD i ⟨#[]⟩ = ws[i] := by
  rw [List.getD_eq_getElem?_getD, List.getElem?_eq_getElem h]; rfl
def WordsFit (ws : List ByteArray) : Prop := ∀ x ∈ ws, x.size ≤ 9223372036854775807
/-- the words of a lexicon, cell by cell -/
theorem words_cell {w : World} {b o : Nat} {ws : List ByteArray} (h : CellsAt w 1 Tx.enc b o ws) {k : Nat} (hk : k < ws.length) : w.cell? ⟨b, o + k, none⟩ = some (.string (ws.getD k ⟨#[]⟩)) := by
  have := h.at0 hk (v := .string ws[k]) rfl
  rw [Nat.mul_one] at this
  rw [getD_at hk]
  exact this
set_option maxHeartbeats 2000000 in
theorem increasing_any (ws : List ByteArray) (a : Option Addr) (cap : Nat) (w : World) (hm : SliceAt w 1 Tx.enc a ws) (hl : ws.length ≤ 9223372036854775807) :
    Calls Tryz.prog 163 #[.slice a ws.length cap] w fun e w' => e = .returned (.bool ((List.range ws.length).all (incAt ws))) ∧ Drew w w' := by
  have HM := Lib.hid hm; clear hm
  go_enter Tryz.func163, Tryz.ntmps163
  go_wp2
  go_loopw [3] (fun i wr => ∃ k : Nat, (1 ≤ k ∧ (k ≤ ws.length ∨ ws.length = 0 ∧ k = 1)) ∧ i = .int .i64 k ∧ Hid ((List.range k).all (incAt ws) = true) ∧ Drew w wr) (fun i _ => ws.length - (intOf i).toNat)
  case atStart => exact ⟨1, ⟨Nat.le_refl _, by omega⟩, rfl, Lib.hid rfl, Drew.refl _⟩
  case round =>
    obtain ⟨k, ⟨hk1, hk⟩, rfl, HA, hd⟩ := hrel
    by_cases hlt : k < ws.length
    · obtain ⟨b, o, rfl, hc⟩ := (HM.out.drew hd).open hlt
      have c0 := words_cell hc hlt
      have c1 := words_cell hc (k := k - 1) (by omega)
      have hb1 : (1 : Int) ≤ (k : Int) := by omega
      have hb2 : (k : Int) - 1 < (ws.length : Int) := by omega
      have HI : Hid (incAt ws k = Op.bytesLess (ws.getD (k - 1) ⟨#[]⟩).toList (ws.getD k ⟨#[]⟩).toList) := Lib.hid (by unfold incAt; rw [show (k == 0) = false by simp; omega]; rfl)
      clear hc
      generalize ws.getD (k - 1) ⟨#[]⟩ = x at *
      generalize ws.getD k ⟨#[]⟩ = y at *
      by_cases hs : Op.bytesLess x.toList y.toList = true
      · go_wp2_with fail
        go_quiet (fail)
        go_wp2
        go_roundw
        case rel => exact ⟨k + 1, ⟨by omega, .inl (by omega)⟩, by go_num, Lib.hid (by rw [all_succ, HA.out, HI.out, hs]; rfl), hd.drewN _⟩
        case measure => simp [intOf]; omega
      · have hs' : Op.bytesLess x.toList y.toList = false := by simpa using hs
        clear hs
        go_wp2_with fail
        go_quiet (fail)
        go_wp2
        go_ret
        exact ⟨ret_bool (all_no hlt (by rw [HI.out]; exact hs')).symm, hd.drewN _⟩
    · have HE : Hid ((List.range ws.length).all (incAt ws) = true) := Lib.hid (by
        rcases hk with hk | ⟨hk, _⟩
        · rw [show ws.length = k from by omega]; exact HA.out
        · rw [hk]; rfl)
      go_wp2
      go_ret
      exact ⟨ret_bool HE.out.symm, hd⟩
theorem lex_split (ws : List ByteArray) : lexOk ws = (decide (ws.length ≤ 200) && (List.range ws.length).all (incAt ws) && (List.range ws.length).all fun i => longL (ws.getD i ⟨#[]⟩).data.toList) := by
  unfold lexOk
  have : (List.range ws.length).all (lexAt ws) = ((List.range ws.length).all (incAt ws) && (List.range ws.length).all fun i => longL (ws.getD i ⟨#[]⟩).data.toList) := by
    rw [Bool.eq_iff_iff]
    simp only [List.all_eq_true, Bool.and_eq_true, lexAt, incAt]
    constructor
    · intro h; exact ⟨fun i hi => (h i hi).2, fun i hi => (h i hi).1⟩
    · rintro ⟨h1, h2⟩ i hi; exact ⟨h2 i hi, h1 i hi⟩
  rw [this, Bool.and_comm, Bool.and_assoc]
theorem fit_at {ws : List ByteArray} (h : WordsFit ws) (k : Nat) : (ws.getD k ⟨#[]⟩).size ≤ 9223372036854775807 := by
  by_cases hk : k < ws.length
  · rw [getD_at hk]; exact h _ (List.getElem_mem hk)
  · rw [List.getD_eq_getElem?_getD, List.getElem?_eq_none (by omega)]; decide
set_option maxRecDepth 100000 in
set_option maxHeartbeats 4000000 in
theorem ValidLexicon_any (ws : List ByteArray) (a : Option Addr) (cap : Nat) (w : World) (hm : SliceAt w 1 Tx.enc a ws) (hl : ws.length ≤ 9223372036854775807) (hf : WordsFit ws) :
    Calls Tryz.prog 71 #[.agg #[.slice a ws.length cap]] w fun e w' => e = .returned (.bool (lexOk ws)) ∧ Below w.heap.size w w' := by
  have HF := Lib.hid hf; clear hf
  have hb : Below w.heap.size w (w.alloc (.cells #[.slice a ws.length cap] 28)) := (Below.refl _ _).alloc (Nat.le_refl _) _
  have c1 := cell_new0 w #[.slice a ws.length cap] 28 (i := 0) (v := .slice a ws.length cap) rfl
  have HM := Lib.hid (hm.kept hb); clear hm
  have HS := Lib.hid (lex_split ws)
  by_cases h2 : ws.length ≤ 200
  · have h2' : ¬ (200 : Int) < (ws.length : Int) := by omega
    cases hi : (List.range ws.length).all (incAt ws) with
    | false =>
      have HN : Hid (lexOk ws = false) := Lib.hid (by rw [HS.out, hi]; simp)
      go_enter Tryz.func71, Tryz.ntmps71
      go_wp2_with fail
      refine (increasing_any ws a cap _ HM.out (by omega)).mono ?_
      rintro e w2 ⟨rfl, hd⟩
      rw [hi]
      clear hi
      have hb2 := hb.trans ((hd.below _).mono hb.size)
      go_wp2
      go_ret
      exact ⟨ret_bool HN.out.symm, hb2⟩
    | true =>
      have HN : Hid (lexOk ws = (List.range ws.length).all fun i => longL (ws.getD i ⟨#[]⟩).data.toList) := Lib.hid (by rw [HS.out, hi, decide_eq_true h2]; rfl)
      go_enter Tryz.func71, Tryz.ntmps71
      go_wp2_with fail
      refine (increasing_any ws a cap _ HM.out (by omega)).mono ?_
      rintro e w2 ⟨rfl, hd⟩
      rw [hi]
      clear hi
      have hk := hd.below (w.alloc (.cells #[.slice a ws.length cap] 28)).heap.size
      have c2 := cell_kept c1 hk
      replace HM := Lib.hid (HM.out.kept hk)
      have hb2 := hb.trans (hk.mono hb.size)
      clear hk hd c1 hb
      go_wp2_with fail
      go_loopw [18] (fun i wr => ∃ k : Nat, k ≤ ws.length ∧ i = .int .i64 k ∧ Hid ((List.range k).all (fun i => longL (ws.getD i ⟨#[]⟩).data.toList) = true) ∧ Below w2.heap.size w2 wr) (fun i _ => ws.length - (intOf i).toNat)
      case atStart => exact ⟨0, Nat.zero_le _, rfl, Lib.hid rfl, Below.refl _ _⟩
      case round =>
        obtain ⟨k, hk, rfl, HA, hx⟩ := hrel
        by_cases hlt : k < ws.length
        · obtain ⟨b, o, rfl, hc⟩ := (HM.out.kept hx).open hlt
          have c0 := words_cell hc hlt
          have hfy := fit_at HF.out k
          have HI : Hid (∀ v, longL (ws.getD k ⟨#[]⟩).data.toList = v → (fun i => longL (ws.getD i ⟨#[]⟩).data.toList) k = v) := Lib.hid (fun _ h => h)
          clear hc
          generalize ws.getD k ⟨#[]⟩ = y at *
          cases hv : longL y.data.toList with
          | true =>
            have HN2 := Lib.hid (HI.out _ hv)
            go_wp2_with fail
            refine (isLong_any y _ hfy).mono ?_
            rintro e w3 ⟨rfl, hd⟩
            rw [hv]
            clear hv
            go_wp2
            go_roundw
            case rel => exact ⟨k + 1, by omega, by go_num, Lib.hid (by rw [all_succ, HA.out, HN2.out]; rfl), hx.trans (hd.mono hx.size)⟩
            case measure => simp [intOf]; omega
          | false =>
            have HN2 : Hid (lexOk ws = false) := Lib.hid (by rw [HN.out]; exact all_no hlt (HI.out _ hv))
            go_wp2_with fail
            refine (isLong_any y _ hfy).mono ?_
            rintro e w3 ⟨rfl, hd⟩
            rw [hv]
            clear hv
            go_wp2
            go_ret
            exact ⟨ret_bool HN2.out.symm, hb2.trans ((hx.trans (hd.mono hx.size)).mono hb2.size)⟩
        · have HN2 : Hid (lexOk ws = true) := Lib.hid (by rw [HN.out, show ws.length = k from by omega]; exact HA.out)
          go_wp2
          go_ret
          exact ⟨ret_bool HN2.out.symm, hb2.trans (hx.mono hb2.size)⟩
  · have h2' : (200 : Int) < (ws.length : Int) := by omega
    have HN : Hid (lexOk ws = false) := Lib.hid (by rw [HS.out, decide_eq_false h2]; rfl)
    go_enter Tryz.func71, Tryz.ntmps71
    go_wp2
    go_ret
    exact ⟨ret_bool HN.out.symm, hb⟩
end Go.Proofs.YtjdcdhhbgijaoaaGreatDoor

namespace Go.Proofs.YtjdcdhhbgijaoaaGreatDoor
open Go.ChangeShapes Go.WideShapes Go.ChangeAt Go.RowKit Go.Sort

def lessW (ws : List ByteArray) (x : ByteArray) (t : Nat) : Bool := Op.bytesLess (ws.getD t x).toList x.toList
/-- where a word stands, or would stand -/
def findW (ws : List ByteArray) (x : ByteArray) : Nat := Lib.bsGo (lessW ws x) ws.length 0 ws.length
def hasW (ws : List ByteArray) (x : ByteArray) : Bool := decide (findW ws x < ws.length ∧ ws.getD (findW ws x) x = x)
theorem inc_mono {ws : List ByteArray} (h : (List.range ws.length).all (incAt ws) = true) {x : ByteArray} : ∀ (d k : Nat), k + 1 + d < ws.length → (ws.getD k x).toList < (ws.getD (k + 1 + d) x).toList
  | 0, k, hk => by
    have h1 := List.all_eq_true.1 h (k + 1) (List.mem_range.2 hk)
    unfold incAt at h1
    rw [bytesLess_eq] at h1
    simp only [Nat.add_sub_cancel, Bool.or_eq_true, beq_iff_eq, decide_eq_true_eq] at h1
    rcases h1 with h1 | h1
    · omega
    · rw [getD_at (show k < ws.length by omega), getD_at (show k + 1 < ws.length by omega)] at h1
      rw [List.getD_eq_getElem?_getD, List.getD_eq_getElem?_getD, List.getElem?_eq_getElem (show k < ws.length by omega), List.getElem?_eq_getElem (show k + 1 + 0 < ws.length by omega)]
      exact h1
  | d + 1, k, hk => by
    have h1 := inc_mono h (x := x) 0 (k + d + 1) (by omega)
    have h2 := inc_mono h (x := x) d k (by omega)
    have e1 : k + 1 + (d + 1) = k + d + 1 + 1 + 0 := by omega
    have e2 : k + 1 + d = k + d + 1 := by omega
    rw [e1]
    rw [e2] at h2
    exact List.lt_trans h2 h1
theorem firstW_eq {ws : List ByteArray} {x : ByteArray} (h : (List.range ws.length).all (incAt ws) = true) {k : Nat} (hk : k ≤ ws.length) (h1 : ∀ t, t < k → lessW ws x t = true) (h2 : k < ws.length → lessW ws x k = false) : findW ws x = k := by
  refine Lib.bsGo_spec (lessW ws x) k h1 (fun t ht => ?_) _ _ _ (by omega) (Nat.zero_le _) hk
  have hirr : ∀ y : List UInt8, decide (y < y) = false := fun y => decide_eq_false (List.lt_irrefl y)
  by_cases hn : t < ws.length
  · have h3 := h2 (by omega)
    by_cases he : t = k
    · rw [he]; exact h3
    · obtain ⟨d, rfl⟩ : ∃ d, t = k + 1 + d := ⟨t - k - 1, by omega⟩
      have h4 := inc_mono h (x := x) d k hn
      unfold lessW at h3 ⊢
      rw [bytesLess_eq] at h3 ⊢
      rw [decide_eq_false_iff_not] at h3 ⊢
      exact fun h5 => h3 (List.lt_trans h4 h5)
  · unfold lessW
    rw [bytesLess_eq, List.getD_eq_getElem?_getD, List.getElem?_eq_none (by omega)]
    exact hirr _
theorem inc_of_lex {ws : List ByteArray} (h : lexOk ws = true) : (List.range ws.length).all (incAt ws) = true := by
  rw [lex_split] at h
  simp only [Bool.and_eq_true] at h
  exact h.1.2
theorem len_of_lex {ws : List ByteArray} (h : lexOk ws = true) : ws.length ≤ 200 := by
  rw [lex_split] at h
  simp only [Bool.and_eq_true, decide_eq_true_eq] at h
  exact h.1.1
end Go.Proofs.YtjdcdhhbgijaoaaGreatDoor

namespace Go.Proofs.YtjdcdhhbgijaoaaGreatDoor
open Go.ChangeShapes Go.WideShapes Go.ChangeAt Go.RowKit Go.Sort

theorem str_dec (x y : ByteArray) : (x.toList == y.toList) = decide (x = y) := by
  rw [Bool.eq_iff_iff, beq_iff_eq, decide_eq_true_eq, ByteArray.toList_eq, ByteArray.toList_eq]
  constructor
  · intro h
    have := congrArg List.toArray h
    cases x; cases y
    simpa using this
  · rintro rfl; rfl
theorem getD_any {ws : List ByteArray} {i : Nat} (h : i < ws.length) (x y : ByteArray) : ws.getD i x = ws.getD i y := by
  rw [List.getD_eq_getElem?_getD, List.getD_eq_getElem?_getD, List.getElem?_eq_getElem h]
  rfl
theorem findW_le {ws : List ByteArray} {x : ByteArray} {k : Nat} (h : findW ws x = k) : hasW ws x = decide (k < ws.length ∧ ws.getD k x = x) := by unfold hasW; rw [h]
end Go.Proofs.YtjdcdhhbgijaoaaGreatDoor
