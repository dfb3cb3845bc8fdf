/- What the law FnTransposedPlays asks of a valid board, words, a rack and a play. Go's tables (CEnv), internal/bytealg's MaxLen (EnvL). -/
import Derived.Test.YtjdcdhhbgijaoaaGreatDoorTvB
import Derived.Test.YtjdcdhhbgijaoaaGreatDoorLpP
import Derived.Test.YtjdcdhhbgijaoaaGreatDoorFpP
import Derived.Test.YtjdcdhhbgijaoaaGreatDoorLgH
namespace Go.Proofs.YtjdcdhhbgijaoaaGreatDoor
open Go.ChangeShapes Go.WideShapes Go.ChangeAt Go.RowKit Go.Sort

/-- what the law asks -/
structure TurnK (b : Brd) (p : Ply) (g cap : Nat) (ws : List ByteArray) (rack : ByteArray) (X : Brd) (a c cd : Int) (tp : Bool) (Wd : List ByteArray) (M N : Brd) : Prop where
  tb : ∀ W, Calls Tryz.prog 13 #[.agg #[.int .i64 b.size, .string b.premium, .string b.cells]] W fun e w' => e = .returned (.tuple #[.agg #[.int .i64 X.size, .string X.premium, .string X.cells], .int .i64 0]) ∧ Below W.heap.size W w'
  tq1 : ∀ W, Calls Tryz.prog 14 #[.agg #[.int .i64 p.row, .int .i64 p.col, .bool p.down, .string p.word]] W fun e w' => e = .returned (.agg #[.int .i64 p.col, .int .i64 p.row, .bool (!p.down), .string p.word]) ∧ Below W.heap.size W w'
  tq2 : ∀ W, Calls Tryz.prog 15 #[.agg #[.int .i64 p.row, .int .i64 p.col, .bool p.down, .string p.word]] W fun e w' => e = .returned (.agg #[.int .i64 p.col, .int .i64 p.row, .bool (!p.down), .string p.word]) ∧ Below W.heap.size W w'
  tq3 : ∀ W, Calls Tryz.prog 14 #[.agg #[.int .i64 p.col, .int .i64 p.row, .bool (!p.down), .string p.word]] W fun e w' => e = .returned (.agg #[.int .i64 p.row, .int .i64 p.col, .bool p.down, .string p.word]) ∧ Below W.heap.size W w'
  tc1 : ∀ W, CEnv W → EnvL W → Calls Tryz.prog 16 #[.agg #[.int .i64 b.size, .string b.premium, .string b.cells], .agg #[.int .i64 p.row, .int .i64 p.col, .bool p.down, .string p.word]] W fun e w' => e = .returned (.bool tp) ∧ Below W.heap.size W w'
  tc2 : ∀ W, Calls Tryz.prog 17 #[.agg #[.int .i64 b.size, .string b.premium, .string b.cells], .agg #[.int .i64 p.row, .int .i64 p.col, .bool p.down, .string p.word]] W fun e w' => e = .returned (.bool tp) ∧ Below W.heap.size W w'
  tc3 : ∀ W, CEnv W → EnvL W → Calls Tryz.prog 16 #[.agg #[.int .i64 X.size, .string X.premium, .string X.cells], .agg #[.int .i64 p.col, .int .i64 p.row, .bool (!p.down), .string p.word]] W fun e w' => e = .returned (.bool tp) ∧ Below W.heap.size W w'
  lg : ∀ W, CEnv W → EnvL W → SliceAt W 1 Tx.enc (some ⟨g, 0, none⟩) ws → Calls Tryz.prog 11 #[.agg #[.int .i64 X.size, .string X.premium, .string X.cells], .agg #[.slice (some ⟨g, 0, none⟩) ws.length cap], .string rack, .agg #[.int .i64 p.col, .int .i64 p.row, .bool (!p.down), .string p.word]] W fun e w' => e = .returned (.int .i64 c) ∧ Below W.heap.size W w'
  cases : (a = c ∧ a ≠ 4) ∨ (a = 4 ∧ c ≠ 4) ∨ (a ≠ 4 ∧ c = 4)
  wd1 : ∀ W, CEnv W → Calls Tryz.prog 18 #[.agg #[.int .i64 b.size, .string b.premium, .string b.cells], .agg #[.int .i64 p.row, .int .i64 p.col, .bool p.down, .string p.word]] W fun e w' => ∃ a cap, e = .returned (.tuple #[.slice a Wd.length cap, .int .i64 cd]) ∧ SliceAt w' 1 Tx.enc a Wd ∧ Below W.heap.size W w'
  wd2 : ∀ W, CEnv W → Calls Tryz.prog 18 #[.agg #[.int .i64 X.size, .string X.premium, .string X.cells], .agg #[.int .i64 p.col, .int .i64 p.row, .bool (!p.down), .string p.word]] W fun e w' => ∃ a cap, e = .returned (.tuple #[.slice a Wd.length cap, .int .i64 cd]) ∧ SliceAt w' 1 Tx.enc a Wd ∧ Below W.heap.size W w'
  mk1 : ∀ W, CEnv W → Calls Tryz.prog 19 #[.agg #[.int .i64 b.size, .string b.premium, .string b.cells], .agg #[.int .i64 p.row, .int .i64 p.col, .bool p.down, .string p.word]] W fun e w' => e = .returned (.tuple #[.agg #[.int .i64 M.size, .string M.premium, .string M.cells], .int .i64 cd]) ∧ Below W.heap.size W w'
  mk2 : ∀ W, CEnv W → Calls Tryz.prog 19 #[.agg #[.int .i64 X.size, .string X.premium, .string X.cells], .agg #[.int .i64 p.col, .int .i64 p.row, .bool (!p.down), .string p.word]] W fun e w' => e = .returned (.tuple #[.agg #[.int .i64 N.size, .string N.premium, .string N.cells], .int .i64 cd]) ∧ Below W.heap.size W w'
  lenW : Wd.length ≤ 9223372036854775807
  code : (cd = 0 ∧ ∀ W, Calls Tryz.prog 13 #[.agg #[.int .i64 M.size, .string M.premium, .string M.cells]] W fun e w' => e = .returned (.tuple #[.agg #[.int .i64 N.size, .string N.premium, .string N.cells], .int .i64 0]) ∧ Below W.heap.size W w') ∨ cd = 1
theorem Brd.Good.turn_wdL {b : Brd} {n : Nat} (h : b.Good n) (p : Ply) : wdL b.turn p.turn = wdL b p := by
  unfold wdL
  rw [h.turn_play, h.turn_words]
theorem Brd.Good.turn_code {b : Brd} {n : Nat} (h : b.Good n) (p : Ply) : codeP b.turn p.turn = codeP b p := by
  unfold codeP
  rw [h.turn_play]
theorem turnK {b : Brd} {p : Ply} {g cap n : Nat} {ws : List ByteArray} {rack : ByteArray} (h : b.Good n) (hw : p.word.size ≤ 1048576) (hl : ws.length ≤ 9223372036854775807) (hwf : WordsFit ws) (hr : rack.size ≤ 9223372036854775807) : ∃ X c cd tp Wd M N, TurnK b p g cap ws rack X (b.legalPlay ws rack p) c cd tp Wd M N := by
  have hf := good_fit h
  have hfX := good_fit h.turn
  have hpf : p.fit := Nat.le_trans hw (by decide)
  have hwX : p.turn.word.size ≤ 1048576 := hw
  have h4 := wdL_len b p
  refine ⟨b.turn, b.turn.legalPlay ws rack p.turn, codeP b p, b.touchPlay p, wdL b p, (makeOut b p).1, (makeOut b.turn p.turn).1, ⟨fun W => ?_, fun W => TransposePlay_any p W, fun W => specTransposePlay_any p W, fun W => ?_, fun W e1 e2 => TouchesBoard_any b p W hf hw e1 e2, fun W => specTouchesBoard_any b p W hf hpf, fun W e1 e2 => ?_, fun W e1 e2 e3 => LegalPlay_any b.turn p.turn ws rack _ cap W e3 hfX hwX hl hwf hr e1 e2, ?_, fun W e1 => (WordsFormed_any b p W hf hw e1).mono fun _ _ k => wordsPost_l k, fun W e1 => ?_, fun W e1 => ?_, fun W e1 => ?_, by omega, ?_⟩⟩
  · have := TransposeBoard_any b W hf
    rwa [turn_yes h.ok] at this
  · have := TransposePlay_any p.turn W
    have e : (!p.turn.down) = p.down := by
      show (!(!p.down)) = p.down
      rw [Bool.not_not]
    rwa [e] at this
  · have := TouchesBoard_any b.turn p.turn W hfX hwX e1 e2
    rwa [h.turn_touchPlay] at this
  · obtain ⟨h1, h2⟩ := h.turn_legal ws rack p
    by_cases h3 : b.legalPlay ws rack p = 4
    · exact .inr (.inl ⟨h3, fun k => h2 ⟨h3, k⟩⟩)
    · by_cases h5 : b.turn.legalPlay ws rack p.turn = 4
      · exact .inr (.inr ⟨h3, h5⟩)
      · exact .inl ⟨(h1.resolve_right fun k => k.elim h3 h5), h3⟩
  · have := (WordsFormed_any b.turn p.turn W hfX hwX e1).mono fun _ _ k => wordsPost_l k
    unfold WdL at this
    rw [h.turn_wdL, h.turn_code] at this
    exact this
  · rw [← code_make]
    exact MakePlay_any b p W hf hw e1
  · rw [← h.turn_code, ← code_make]
    exact MakePlay_any b.turn p.turn W hfX hwX e1
  · cases hk : b.okPlay p with
    | false => exact .inr (by unfold codeP; rw [hk]; rfl)
    | true =>
      obtain ⟨m, hp⟩ := okPlay_good hk
      have hkX : b.turn.okPlay p.turn = true := by rw [h.turn_play, hk]
      refine .inl ⟨by unfold codeP; rw [hk]; rfl, fun W => ?_⟩
      rw [make_yes hk, make_yes hkX]
      have := TransposeBoard_any (b.made p) W (good_fit hp.made_good)
      rw [turn_yes hp.made_good.ok, hp.turn_made] at this
      exact this
end Go.Proofs.YtjdcdhhbgijaoaaGreatDoor
