/- Plain definitions and lemmas: when a game is valid. No condition. -/
import Derived.Test.YtofcampipllegaaGreatDoorGam
import Derived.Test.YtofcampipllegaaGreatDoorLgF
namespace Go.Proofs.YtofcampipllegaaGreatDoor
open Go.ChangeShapes Go.WideShapes Go.ChangeAt Go.RowKit Go.Sort

/-! ### Sorted piles of lists that are alike -/
theorem cnt_eq {a b : List UInt8} (h : a.Perm b) : cntI a = cntI b := by
 funext k
 unfold cntI
 rw [cnt_perm h k]
theorem srt_congr {a b : List UInt8} (h : a.Perm b) : srtL a = srtL b := by unfold srtL; rw [cnt_eq h]
theorem srt_all {l : List UInt8} : (srtL l).all tileB = true := List.all_eq_true.2 fun c hc => pile_tiles _ 27 (Nat.le_refl _) c hc
/-- sorting what another way of sorting has left -/
theorem srt_of {R l : List UInt8} (h : l.all tileB = true) (hs : SortedT R) (hp : R.Perm l) : R = srtL l := srt_eq h hs hp

/-! ### Bags -/
def bagOk (l : List UInt8) : Bool := l.all tileB && decide (l.length ≤ 120)
theorem bag_parts {l : List UInt8} (h : bagOk l = true) : l.all tileB = true ∧ l.length ≤ 120 := by
 unfold bagOk at h
 rwa [Bool.and_eq_true, decide_eq_true_eq] at h

/-! ### Setups -/
def Stp.ok (s : Stp) : Bool := s.tiles.ok && (lexOk s.lexicon && (s.board.ok && (s.board.blank && (withinB s.seconds 0 36000 && withinB s.rule 0 3))))
structure Stp.Good (s : Stp) : Prop where
 tiles : s.tiles.ok = true
 lexicon : lexOk s.lexicon = true
 board : s.board.ok = true
 blank : s.board.blank = true
 seconds : withinB s.seconds 0 36000 = true
 rule : withinB s.rule 0 3 = true
theorem Stp.good {s : Stp} (h : s.ok = true) : s.Good := by
 unfold Stp.ok at h
 simp only [Bool.and_eq_true] at h
 exact ⟨h.1, h.2.1, h.2.2.1, h.2.2.2.1, h.2.2.2.2.1, h.2.2.2.2.2⟩

/-! ### All tiles of a tile set -/
def allK (x : Tls) (n : Nat) : List UInt8 := List.replicate x.blanks.toNat 63 ++ (List.range n).flatMap fun i => List.replicate (x.counts.getD i 0).toNat (x.letters.data.toList.getD i 0)
def allL (x : Tls) : List UInt8 := allK x x.letters.size
theorem allK_zero (x : Tls) : allK x 0 = List.replicate x.blanks.toNat 63 := by simp [allK]
theorem allK_succ (x : Tls) (n : Nat) : allK x (n + 1) = allK x n ++ List.replicate (x.counts.getD n 0).toNat (x.letters.data.toList.getD n 0) := by
 unfold allK
 rw [List.range_succ, List.flatMap_append, List.append_assoc]
 simp
theorem allK_len (x : Tls) (hb : x.blanks ≤ 4) (hc : ∀ i, x.counts.getD i 0 ≤ 20) : ∀ n, (allK x n).length ≤ 4 + 20 * n
 | 0 => by rw [allK_zero, List.length_replicate]; omega
 | n + 1 => by
  rw [allK_succ, List.length_append, List.length_replicate]
  have := allK_len x hb hc n
  have := hc n
  omega

/-! ### Games -/
/-- the letters on the board, as tiles -/
def Gam.lets (x : Gam) : List UInt8 := (lettersL x.board.cells.data.toList).map tlC
def Gam.rack (x : Gam) (k : Nat) : ByteArray := x.racks.getD k ⟨#[]⟩
/-- the tiles of a game are all tiles -/
def Gam.fits (x : Gam) : Bool := decide (srtL (x.bag.data.toList ++ (x.rack 0).data.toList ++ (x.rack 1).data.toList ++ srtL x.lets) = allL x.setup.tiles)
def Gam.before (x : Gam) : Brd := ⟨x.board.size, x.board.premium, x.last.before⟩
/-- the number of tiles that the last play placed -/
def Gam.placed (x : Gam) : Nat := (x.before.fresh x.last.play).length
def Gam.mover (x : Gam) : ByteArray := x.rack x.last.player.toNat
def Gam.playOk (x : Gam) : Bool :=
 decide (x.last.player = 1 - x.player) && (x.before.okPlay x.last.play && (decide ((x.before.made x.last.play).cells = x.board.cells) && (decide (x.placed ≤ 7) && (bagOk x.last.drawn.data.toList && (decide (x.last.drawn.size ≤ x.placed) && (decide ((x.mover.size : Int) - x.last.drawn.size + x.placed ≤ 7) && (hasT x.mover.data.toList x.last.drawn.data.toList && (decide (x.last.score = x.before.score x.last.play x.setup.tiles) && (decide (x.last.score ≤ 20000) && (withinB x.last.zeros 0 5 && decide (x.zeros = 0)))))))))))
/-- the last action has no fields but its kind and the player -/
def Lst.bare (l : Lst) : Bool := decide (l.play.row = 0) && (decide (l.play.col = 0) && (!l.play.down && (decide (l.play.word.size = 0) && (decide (l.before.size = 0) && (decide (l.drawn.size = 0) && (decide (l.score = 0) && decide (l.zeros = 0)))))))
def Gam.lastOk (x : Gam) : Bool :=
 if x.last.kind = 0 then x.last.bare && decide (x.last.player = 0)
 else if x.last.kind = 2 then x.last.bare && withinB x.last.player 0 1
 else if x.last.kind = 3 then x.last.bare && withinB x.last.player 0 1
 else if x.last.kind = 1 then x.playOk else false
/-- a player's rack, score and clock -/
def Gam.sideOk (x : Gam) (k : Nat) : Bool := rackOk (x.rack k).data.toList && (withinB (x.scores.getD k 0) (-100000) 100000 && withinB (x.clocks.getD k 0) (-36000) 36000)
def Gam.headOk (x : Gam) : Bool := x.setup.ok && (x.board.ok && (decide (x.board.size = x.setup.board.size) && (decide (x.board.premium = x.setup.board.premium) && bagOk x.bag.data.toList)))
def Gam.listOk (x : Gam) : Bool := decide (x.racks.length = 2) && (decide (x.scores.length = 2) && (decide (x.clocks.length = 2) && withinB x.player 0 1))
def Gam.ok (x : Gam) : Bool := x.headOk && (x.listOk && (x.sideOk 0 && (x.sideOk 1 && (withinB x.zeros 0 6 && ((x.over || decide (x.zeros < 6)) && (x.fits && x.lastOk))))))
theorem Gam.no_head {x : Gam} (h : x.headOk = false) : x.ok = false := by unfold Gam.ok; rw [h]; rfl
theorem Gam.no_list {x : Gam} (h : x.listOk = false) : x.ok = false := by unfold Gam.ok; rw [h, Bool.false_and, Bool.and_false]
theorem Gam.no_side0 {x : Gam} (h : x.sideOk 0 = false) : x.ok = false := by unfold Gam.ok; rw [h, Bool.false_and, Bool.and_false, Bool.and_false]
theorem Gam.no_side1 {x : Gam} (h : x.sideOk 1 = false) : x.ok = false := by unfold Gam.ok; rw [h, Bool.false_and, Bool.and_false, Bool.and_false, Bool.and_false]
theorem Gam.no_zeros {x : Gam} (h : withinB x.zeros 0 6 = false) : x.ok = false := by unfold Gam.ok; rw [h, Bool.false_and]; simp
theorem Gam.no_over {x : Gam} (h : (x.over || decide (x.zeros < 6)) = false) : x.ok = false := by unfold Gam.ok; rw [h, Bool.false_and]; simp
theorem Gam.no_fits {x : Gam} (h : x.fits = false) : x.ok = false := by unfold Gam.ok; rw [h, Bool.false_and]; simp
theorem Gam.yes {x : Gam} (h1 : x.headOk = true) (h2 : x.listOk = true) (h3 : x.sideOk 0 = true) (h4 : x.sideOk 1 = true) (h5 : withinB x.zeros 0 6 = true) (h6 : (x.over || decide (x.zeros < 6)) = true) (h7 : x.fits = true) : x.ok = x.lastOk := by
 unfold Gam.ok; rw [h1, h2, h3, h4, h5, h6, h7]; rfl
end Go.Proofs.YtofcampipllegaaGreatDoor
