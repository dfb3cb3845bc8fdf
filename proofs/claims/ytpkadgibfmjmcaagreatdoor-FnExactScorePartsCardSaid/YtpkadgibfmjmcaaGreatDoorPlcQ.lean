/- Plain: the squares of a word across, on the board after a play, hold the word that the reference forms. No condition. -/
import Derived.Test.YtpkadgibfmjmcaaGreatDoorPlbG
namespace Go.Proofs.YtpkadgibfmjmcaaGreatDoor
open Go.ChangeShapes Go.WideShapes Go.ChangeAt Go.RowKit Go.Sort

theorem upL_congr {F G : Fl} {c c' r r' : Int} : ∀ (k : Nat), (∀ j : Nat, j < k → F (r - j) c = G (r' - j) c') → upL F c k r = upL G c' k r'
  | 0, _ => rfl
  | k + 1, h => by
    have h0 := h 0 (by omega)
    simp only [Int.natCast_zero, Int.sub_zero] at h0
    have ih := upL_congr (F := F) (G := G) (c := c) (c' := c') (r := r - 1) (r' := r' - 1) k (fun j hj => by
      have := h (j + 1) (by omega)
      rwa [show r - ((j + 1 : Nat) : Int) = r - 1 - (j : Int) from by omega, show r' - ((j + 1 : Nat) : Int) = r' - 1 - (j : Int) from by omega] at this)
    rw [upL, upL, h0, ih]
theorem dnL_congr {F G : Fl} {c c' r r' : Int} : ∀ (k : Nat), (∀ j : Nat, j < k → F (r + j) c = G (r' + j) c') → dnL F c k r = dnL G c' k r'
  | 0, _ => rfl
  | k + 1, h => by
    have h0 := h 0 (by omega)
    simp only [Int.natCast_zero, Int.add_zero] at h0
    have ih := dnL_congr (F := F) (G := G) (c := c) (c' := c') (r := r + 1) (r' := r' + 1) k (fun j hj => by
      have := h (j + 1) (by omega)
      rwa [show r + ((j + 1 : Nat) : Int) = r + 1 + (j : Int) from by omega, show r' + ((j + 1 : Nat) : Int) = r' + 1 + (j : Int) from by omega] at this)
    rw [dnL, dnL, h0, ih]
/-- a line across a play's square, seen in the play's view -/
theorem line_view {b : Brd} {n : Nat} (h : b.Good n) (p : Ply) (i : Nat) (m x : Int) : lineF b (!p.down) (p.sr i) (p.sc i) m x = b.view p (p.r + m) (p.c + i) := by
  rw [h.view]
  unfold lineF dirSq Ply.sr Ply.sc Ply.r Ply.c
  cases p.down <;> rfl
theorem PGood.line_off {b : Brd} {p : Ply} {n : Nat} (h : PGood b p n) (i : Nat) {m : Int} (hm : m ≠ 0) (x : Int) : lineF (b.made p) (!p.down) (p.sr i) (p.sc i) m x = b.view p (p.r + m) (p.c + i) := by
  rw [line_view h.made_good, h.made_out (.inl (by omega))]
theorem PGood.seqU_eq {b : Brd} {p : Ply} {n : Nat} (h : PGood b p n) (i : Nat) : seqU (b.made p) (!p.down) (p.sr i) (p.sc i) = (upL (b.view p) (p.c + i) 16 (p.r - 1)).length := by
  unfold seqU
  rw [upL_congr (G := b.view p) (c' := p.c + i) (r' := p.r - 1) 16 (fun j _ => by
    rw [h.line_off i (by omega), show p.r + (-1 - (j : Int)) = p.r - 1 - j from by omega])]
theorem PGood.seqD_eq {b : Brd} {p : Ply} {n : Nat} (h : PGood b p n) (i : Nat) : seqD (b.made p) (!p.down) (p.sr i) (p.sc i) = (dnL (b.view p) (p.c + i) 16 (p.r + 1)).length := by
  unfold seqD
  rw [dnL_congr (G := b.view p) (c' := p.c + i) (r' := p.r + 1) 16 (fun j _ => by
    rw [h.line_off i (by omega), show p.r + (1 + (j : Int)) = p.r + 1 + j from by omega])]
theorem PGood.cross_len {b : Brd} {p : Ply} {n : Nat} (h : PGood b p n) (i : Nat) (x : UInt8) : (crossS b p i).length = (crossW (b.view p) p.r (p.c + i) x).length := by
  unfold crossS
  rw [seqL_len, h.seqU_eq, h.seqD_eq, crossW_length]
/-- the letters on the squares of a word across -/
def lettersOf (b : Brd) (l : List (Int × Int)) : List UInt8 := l.map fun s => b.cell s.1 s.2
theorem PGood.cross_letters {b : Brd} {p : Ply} {n : Nat} (h : PGood b p n) {i : Nat} (hi : i < p.word.size) : lettersOf (b.made p) (crossS b p i) = crossW (b.view p) p.r (p.c + i) (p.word.data.toList.getD i 0) := by
  apply List.ext_getElem
  · unfold lettersOf
    rw [List.length_map, h.cross_len i (p.word.data.toList.getD i 0)]
  · intro j h1 h2
    have hu := h.seqU_eq i
    have e : (lettersOf (b.made p) (crossS b p i))[j] = lineF (b.made p) (!p.down) (p.sr i) (p.sc i) ((j : Int) - seqU (b.made p) (!p.down) (p.sr i) (p.sc i)) 0 := by
      unfold lettersOf crossS seqL
      simp only [List.map_map, List.getElem_map, List.getElem_range, Function.comp]
      rfl
    rw [e, hu]
    by_cases c1 : j < (upL (b.view p) (p.c + i) 16 (p.r - 1)).length
    · rw [(crossW_lo c1 h2).1, h.line_off i (by omega)]
      congr 1
      omega
    · by_cases c2 : j = (upL (b.view p) (p.c + i) 16 (p.r - 1)).length
      · subst c2
        rw [crossW_mid h2, Int.sub_self, line_view h.made_good, Int.add_zero]
        exact h.made_in hi
      · rw [(crossW_hi (by omega) h2).1, h.line_off i (by omega)]
        congr 1
        omega
theorem PGood.cross_to {b : Brd} {p : Ply} {n : Nat} (h : PGood b p n) (is : List Nat) (hlt : ∀ i ∈ is, i < p.word.size) : acrossL (b.view p) p.r p.c p.word.data.toList is = (crossTo b p is).map fun i => lettersOf (b.made p) (crossS b p i) := by
  unfold acrossL crossTo
  induction is with
  | nil => rfl
  | cons i is ih =>
    have ih2 := ih (fun j hj => hlt j (List.mem_cons_of_mem _ hj))
    have hl := h.cross_len i (p.word.data.toList.getD i 0)
    simp only [List.map_cons, List.filter_cons]
    by_cases c : 2 ≤ (crossS b p i).length
    · rw [if_pos (decide_eq_true (by omega)), if_pos (decide_eq_true c), List.map_cons, h.cross_letters (hlt i (List.mem_cons_self)), ih2]
    · rw [if_neg (by rw [decide_eq_true_eq]; omega), if_neg (by rw [decide_eq_true_eq]; exact c), ih2]
theorem PGood.words_cross {b : Brd} {p : Ply} {n : Nat} (h : PGood b p n) : b.words p = (p.word.data.toList :: (crossTo b p (b.fresh p)).map fun i => lettersOf (b.made p) (crossS b p i)).map fun l => mkB (lowL l) := by
  unfold Brd.words Brd.formed
  rw [h.cross_to (b.fresh p) (fun i hi => (freshL_lt hi).1)]
end Go.Proofs.YtpkadgibfmjmcaaGreatDoor
