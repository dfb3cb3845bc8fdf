/- What the law FnScores asks of a tile set, a board and a play. Go's tables (CEnv). -/
import Derived.Test.YtjdcdhhbgijaoaaGreatDoorFsB
import Derived.Test.YtjdcdhhbgijaoaaGreatDoorFvB
import Derived.Test.YtjdcdhhbgijaoaaGreatDoorFpP
import Derived.Test.YtjdcdhhbgijaoaaGreatDoorTvB
import Derived.Test.YtjdcdhhbgijaoaaGreatDoorDbE
import Derived.Test.YtjdcdhhbgijaoaaGreatDoorPlbI
namespace Go.Proofs.YtjdcdhhbgijaoaaGreatDoor
open Go.ChangeShapes Go.WideShapes Go.ChangeAt Go.RowKit Go.Sort

/-- partial sums of a list fit an int -/
def sumsFit (l : List Int) : Prop := ∀ k, k ≤ l.length → 0 ≤ (l.take k).sum ∧ (l.take k).sum ≤ 1099511627776
theorem sums_fit {l : List Int} {B : Int} (h : ∀ v ∈ l, 0 ≤ v ∧ v ≤ B) (hB : B ≤ 382637520) (hl : l.length ≤ 13) : sumsFit l := by
  intro k hk
  have h1 := sum_range (xs := l.take k) (B := 382637520) (fun v hv => by have := h v (List.mem_of_mem_take hv); omega)
  have h2 : (l.take k).length ≤ 13 := by rw [List.length_take]; omega
  omega
theorem sum_snoc {l : List Int} {k : Nat} (h : k < l.length) : (l.take (k + 1)).sum = (l.take k).sum + l[k] := by
  rw [List.take_succ_eq_append_getElem h, List.sum_append]
  simp
/-- what the law asks of a play that has a score -/
structure GoodK (x : Tls) (q : TlA) (b : Brd) (p : Ply) (n : Int) (P L : List Int) (fc : Int) (pr : ByteArray) (m : Nat) (X E : Brd) (P2 : List Int) (v : Int) : Prop where
  wd : ∀ W, CEnv W → Calls Tryz.prog 18 #[.agg #[.int .i64 b.size, .string b.premium, .string b.cells], .agg #[.int .i64 p.row, .int .i64 p.col, .bool p.down, .string p.word]] W fun e w' => ∃ g cap : Nat, e = .returned (.tuple #[.slice (some ⟨g, 0, none⟩) P.length cap, .int .i64 0]) ∧ Below W.heap.size W w'
  tb : ∀ W, Calls Tryz.prog 13 #[.agg #[.int .i64 b.size, .string b.premium, .string b.cells]] W fun e w' => e = .returned (.tuple #[.agg #[.int .i64 X.size, .string X.premium, .string X.cells], .int .i64 0]) ∧ Below W.heap.size W w'
  tq : ∀ W, Calls Tryz.prog 14 #[.agg #[.int .i64 p.row, .int .i64 p.col, .bool p.down, .string p.word]] W fun e w' => e = .returned (.agg #[.int .i64 p.col, .int .i64 p.row, .bool (!p.down), .string p.word]) ∧ Below W.heap.size W w'
  sp3 : ∀ W, x.At q W → CEnv W → Calls Tryz.prog 22 #[.agg #[.string x.letters, .slice q.values.a x.values.length q.values.c, .slice q.counts.a x.counts.length q.counts.c, .int .i64 x.blanks], .agg #[.int .i64 X.size, .string X.premium, .string X.cells], .agg #[.int .i64 p.col, .int .i64 p.row, .bool (!p.down), .string p.word]] W fun e w' => e = .returned (.tuple #[.int .i64 n, .int .i64 0]) ∧ Below W.heap.size W w'
  eb : ∀ W, Calls Tryz.prog 33 #[.int .i64 b.size] W fun e w' => e = .returned (.tuple #[.agg #[.int .i64 E.size, .string E.premium, .string E.cells], .int .i64 0]) ∧ Below W.heap.size W w'
  sp4 : ∀ W, x.At q W → CEnv W → Calls Tryz.prog 24 #[.agg #[.string x.letters, .slice q.values.a x.values.length q.values.c, .slice q.counts.a x.counts.length q.counts.c, .int .i64 x.blanks], .agg #[.int .i64 b.size, .string E.premium, .string b.cells], .agg #[.int .i64 p.row, .int .i64 p.col, .bool p.down, .string p.word]] W fun e w' => ∃ g cap : Nat, e = .returned (.tuple #[.slice (some ⟨g, 0, none⟩) P.length cap, .int .i64 0]) ∧ SliceAt w' 1 I64.enc (some ⟨g, 0, none⟩) P2 ∧ Below W.heap.size W w'
  lv : ∀ W, x.At q W → Calls Tryz.prog 34 #[.agg #[.string x.letters, .slice q.values.a x.values.length q.values.c, .slice q.counts.a x.counts.length q.counts.c, .int .i64 x.blanks], .string p.word] W fun e w' => e = .returned (.int .i64 v) ∧ Below W.heap.size W w'
  len2 : P2.length = P.length
  pos : 0 < P.length
  few : P.length ≤ 13
  fewL : L.length ≤ 13
  first2 : P2.getD 0 0 = v
  main : P.getD 0 0 = L.sum * fc
  mlo : 0 ≤ L.sum * fc
  mhi : L.sum * fc ≤ 1099511627776
  fitP : sumsFit P
  fitL : sumsFit L
  total : n = P.sum + if pr.size = 7 then 50 else 0
/-- what the law asks -/
structure ScoreK (x : Tls) (q : TlA) (b : Brd) (p : Ply) (n cd : Int) (P L : List Int) (fc cf : Int) (pr : ByteArray) : Prop where
  sp1 : ∀ W, x.At q W → CEnv W → Calls Tryz.prog 22 #[.agg #[.string x.letters, .slice q.values.a x.values.length q.values.c, .slice q.counts.a x.counts.length q.counts.c, .int .i64 x.blanks], .agg #[.int .i64 b.size, .string b.premium, .string b.cells], .agg #[.int .i64 p.row, .int .i64 p.col, .bool p.down, .string p.word]] W fun e w' => e = .returned (.tuple #[.int .i64 n, .int .i64 cd]) ∧ Below W.heap.size W w'
  sp2 : ∀ W, x.At q W → Calls Tryz.prog 23 #[.agg #[.string x.letters, .slice q.values.a x.values.length q.values.c, .slice q.counts.a x.counts.length q.counts.c, .int .i64 x.blanks], .agg #[.int .i64 b.size, .string b.premium, .string b.cells], .agg #[.int .i64 p.row, .int .i64 p.col, .bool p.down, .string p.word]] W fun e w' => e = .returned (.tuple #[.int .i64 n, .int .i64 cd]) ∧ Below W.heap.size W w'
  pt1 : ∀ W, x.At q W → CEnv W → Calls Tryz.prog 24 #[.agg #[.string x.letters, .slice q.values.a x.values.length q.values.c, .slice q.counts.a x.counts.length q.counts.c, .int .i64 x.blanks], .agg #[.int .i64 b.size, .string b.premium, .string b.cells], .agg #[.int .i64 p.row, .int .i64 p.col, .bool p.down, .string p.word]] W fun e w' => ∃ a cap, e = .returned (.tuple #[.slice a P.length cap, .int .i64 cd]) ∧ SliceAt w' 1 I64.enc a P ∧ Below W.heap.size W w'
  pt2 : ∀ W, x.At q W → Calls Tryz.prog 25 #[.agg #[.string x.letters, .slice q.values.a x.values.length q.values.c, .slice q.counts.a x.counts.length q.counts.c, .int .i64 x.blanks], .agg #[.int .i64 b.size, .string b.premium, .string b.cells], .agg #[.int .i64 p.row, .int .i64 p.col, .bool p.down, .string p.word]] W fun e w' => ∃ a cap, e = .returned (.tuple #[.slice a P.length cap, .int .i64 cd]) ∧ SliceAt w' 1 I64.enc a P ∧ Below W.heap.size W w'
  lt1 : ∀ W, x.At q W → CEnv W → Calls Tryz.prog 26 #[.agg #[.string x.letters, .slice q.values.a x.values.length q.values.c, .slice q.counts.a x.counts.length q.counts.c, .int .i64 x.blanks], .agg #[.int .i64 b.size, .string b.premium, .string b.cells], .agg #[.int .i64 p.row, .int .i64 p.col, .bool p.down, .string p.word]] W fun e w' => ∃ a cap, e = .returned (.tuple #[.slice a L.length cap, .int .i64 cd]) ∧ SliceAt w' 1 I64.enc a L ∧ Below W.heap.size W w'
  lt2 : ∀ W, x.At q W → Calls Tryz.prog 27 #[.agg #[.string x.letters, .slice q.values.a x.values.length q.values.c, .slice q.counts.a x.counts.length q.counts.c, .int .i64 x.blanks], .agg #[.int .i64 b.size, .string b.premium, .string b.cells], .agg #[.int .i64 p.row, .int .i64 p.col, .bool p.down, .string p.word]] W fun e w' => ∃ a cap, e = .returned (.tuple #[.slice a L.length cap, .int .i64 cd]) ∧ SliceAt w' 1 I64.enc a L ∧ Below W.heap.size W w'
  wf1 : ∀ W, CEnv W → Calls Tryz.prog 28 #[.agg #[.int .i64 b.size, .string b.premium, .string b.cells], .agg #[.int .i64 p.row, .int .i64 p.col, .bool p.down, .string p.word]] W fun e w' => e = .returned (.tuple #[.int .i64 fc, .int .i64 cf]) ∧ Below W.heap.size W w'
  wf2 : ∀ W, Calls Tryz.prog 29 #[.agg #[.int .i64 b.size, .string b.premium, .string b.cells], .agg #[.int .i64 p.row, .int .i64 p.col, .bool p.down, .string p.word]] W fun e w' => e = .returned (.tuple #[.int .i64 fc, .int .i64 cf]) ∧ Below W.heap.size W w'
  pu1 : ∀ W, CEnv W → Calls Tryz.prog 30 #[.agg #[.int .i64 b.size, .string b.premium, .string b.cells], .agg #[.int .i64 p.row, .int .i64 p.col, .bool p.down, .string p.word]] W fun e w' => e = .returned (.tuple #[.string pr, .int .i64 cf]) ∧ Below W.heap.size W w'
  pu2 : ∀ W, Calls Tryz.prog 31 #[.agg #[.int .i64 b.size, .string b.premium, .string b.cells], .agg #[.int .i64 p.row, .int .i64 p.col, .bool p.down, .string p.word]] W fun e w' => e = .returned (.tuple #[.string pr, .int .i64 cf]) ∧ Below W.heap.size W w'
  shortP : P.length ≤ 1048576
  shortL : L.length ≤ 1048576
  good : cd = 0 → ∃ m X E P2 v, GoodK x q b p n P L fc pr m X E P2 v
/-- the parts, the letters' scores, as lists -/
def partsL (b : Brd) (p : Ply) (x : Tls) : List Int := if x.ok && b.okPlay p then b.parts p x else []
def lettersQ (b : Brd) (p : Ply) (x : Tls) : List Int := if x.ok && b.okPlay p then b.letterL p x else []
def scoreV (b : Brd) (p : Ply) (x : Tls) : Int := if x.ok && b.okPlay p then b.score p x else 0
def codeS (b : Brd) (p : Ply) (x : Tls) : Int := if x.ok && b.okPlay p then 0 else 1
theorem score_l {b : Brd} {p : Ply} {x : Tls} {w : World} {e : Ending} {w' : World} (h : ScorePost b p x w e w') : e = .returned (.tuple #[.int .i64 (scoreV b p x), .int .i64 (codeS b p x)]) ∧ Below w.heap.size w w' := by
  unfold ScorePost at h
  unfold scoreV codeS
  cases hk : (x.ok && b.okPlay p) <;> rw [hk] at h <;> exact h
theorem parts_l {b : Brd} {p : Ply} {x : Tls} {w : World} {e : Ending} {w' : World} (h : PartsPost b p x w e w') : ∃ a cap, e = .returned (.tuple #[.slice a (partsL b p x).length cap, .int .i64 (codeS b p x)]) ∧ SliceAt w' 1 I64.enc a (partsL b p x) ∧ Below w.heap.size w w' := by
  unfold PartsPost at h
  unfold partsL codeS
  cases hk : (x.ok && b.okPlay p) with
  | false =>
    rw [hk] at h
    obtain ⟨rfl, hb⟩ := h
    exact ⟨none, 0, rfl, .inl rfl, hb⟩
  | true =>
    rw [hk] at h
    obtain ⟨g, cap, rfl, ho, hb⟩ := h
    exact ⟨_, cap, rfl, own_slice I64.enc_len ho rfl, hb⟩
theorem letters_l {b : Brd} {p : Ply} {x : Tls} {w : World} {e : Ending} {w' : World} (h : LettersPost b p x w e w') : ∃ a cap, e = .returned (.tuple #[.slice a (lettersQ b p x).length cap, .int .i64 (codeS b p x)]) ∧ SliceAt w' 1 I64.enc a (lettersQ b p x) ∧ Below w.heap.size w w' := by
  unfold LettersPost at h
  unfold lettersQ codeS
  cases hk : (x.ok && b.okPlay p) with
  | false =>
    rw [hk] at h
    obtain ⟨rfl, hb⟩ := h
    exact ⟨none, 0, rfl, .inl rfl, hb⟩
  | true =>
    rw [hk] at h
    obtain ⟨g, cap, rfl, ho, hb⟩ := h
    exact ⟨_, cap, rfl, own_slice I64.enc_len ho rfl, hb⟩
theorem facOut_code (b : Brd) (p : Ply) : (facOut b p).2 = if b.okPlay p then 0 else 1 := by unfold facOut; split <;> rfl
theorem premOut_code (b : Brd) (p : Ply) : (premOut b p).2 = if b.okPlay p then 0 else 1 := by unfold premOut; split <;> rfl
theorem letterL_len (b : Brd) (p : Ply) (x : Tls) : (b.letterL p x).length = p.word.size := by
  unfold Brd.letterL lettersA
  rw [List.length_map, List.length_range]
theorem parts_few (b : Brd) (p : Ply) (x : Tls) : (b.parts p x).length ≤ p.word.size + 1 := by
  have h1 := parts_len b p x
  have h2 : (b.fresh p).length ≤ p.word.size := freshL_len _ _ _ _
  omega
theorem fits_brd {b : Brd} {n : Nat} (h : b.Good n) : b.fit := by
  have h1 := sq_mono h.hi
  have h2 := h.prem
  have h3 := h.cells
  exact ⟨by omega, by omega⟩
theorem scoreK (x : Tls) (q : TlA) (b : Brd) (p : Ply) (hft : x.fit) (hxs : x.letters.size ≤ 1048576) (hf : b.fit) (hw : p.word.size ≤ 1000) : ∃ n cd P L fc cf pr, ScoreK x q b p n cd P L fc cf pr := by
  have hpf : p.fit := Nat.le_trans hw (by decide)
  have hw2 : p.word.size ≤ 1048576 := Nat.le_trans hw (by decide)
  have hlp : (partsL b p x).length ≤ 1048576 := by
    unfold partsL
    split
    · have := parts_few b p x; omega
    · exact Nat.zero_le _
  have hll : (lettersQ b p x).length ≤ 1048576 := by
    unfold lettersQ
    split
    · rw [letterL_len]; omega
    · exact Nat.zero_le _
  refine ⟨scoreV b p x, codeS b p x, partsL b p x, lettersQ b p x, (facOut b p).1, (facOut b p).2, (premOut b p).1, ⟨fun W h1 h2 => (ScorePlay_any x q b p W h1 hft hxs hf hw2 h2).mono fun _ _ k => score_l k, fun W h1 => (specScorePlay_any x q b p W h1 hft hf hpf).mono fun _ _ k => score_l k, fun W h1 h2 => (ScoreParts_any x q b p W h1 hft hxs hf hw2 h2).mono fun _ _ k => parts_l k, fun W h1 => (specScoreParts_any x q b p W h1 hft hf hpf).mono fun _ _ k => parts_l k, fun W h1 h2 => (LetterScores_any x q b p W h1 hft hxs hf hw2 h2).mono fun _ _ k => letters_l k, fun W h1 => (specLetterScores_any x q b p W h1 hft hf hpf).mono fun _ _ k => letters_l k, fun W h2 => WordFactor_any b p W hf hw2 h2, fun W => specWordFactor_any b p W hf hpf, fun W h2 => ?_, fun W => ?_, hlp, hll, fun h0 => ?_⟩⟩
  · have := PremiumsUsed_any b p W hf hw2 h2
    rwa [premOut_code, ← facOut_code] at this
  · have := specPremiumsUsed_any b p W hf hpf
    rwa [premOut_code, ← facOut_code] at this
  · have hall : (x.ok && b.okPlay p) = true := by
      cases e : (x.ok && b.okPlay p) with
      | true => rfl
      | false => unfold codeS at h0; rw [e] at h0; exact absurd h0 (by decide)
    obtain ⟨hx, hk⟩ := (Bool.and_eq_true _ _ ▸ hall : x.ok = true ∧ b.okPlay p = true)
    obtain ⟨n, hp⟩ := okPlay_good hk
    have hxg := Tls.good hx
    have e1 : partsL b p x = b.parts p x := by unfold partsL; rw [hall]; rfl
    have e2 : lettersQ b p x = b.letterL p x := by unfold lettersQ; rw [hall]; rfl
    have e3 : scoreV b p x = b.score p x := by unfold scoreV; rw [hall]; rfl
    have e4 : (facOut b p).1 = b.fac p := by rw [facOut_yes hk]
    have e5 : (premOut b p).1 = mkB (b.premL p) := by rw [premOut_yes hk]
    rw [e1, e2, e3, e4, e5]
    have h12 := hp.twelve
    have hsz : b.size = (n : Int) := hp.good.size
    have hlo := hp.good.lo
    have hhi := hp.good.hi
    have hbare : b.bare.Good n := hp.good.bare
    have hbk : b.bare.okPlay p = true := by rw [hp.good.bare_play]; exact hk
    have hbb : b.bare = ⟨b.size, mkB (List.replicate (n * n) 46), b.cells⟩ := by
      unfold Brd.bare
      rw [hsz]
      congr 2
    obtain ⟨hb1, hb2⟩ := hp.bare_parts x
    have hpr := parts_range hp hxg
    have hlr : ∀ v ∈ b.letterL p x, 0 ≤ v ∧ v ≤ 60 := by
      intro v hv
      unfold Brd.letterL lettersA at hv
      obtain ⟨i, _, rfl⟩ := List.mem_map.1 hv
      exact letA_range hxg _ _ _ _ _ _
    have hm : (b.parts p x).getD 0 0 = (b.letterL p x).sum * b.fac p := main_part b p x
    have hpos : 0 < (b.parts p x).length := by unfold Brd.parts; simp
    have hm0 := hpr ((b.parts p x).getD 0 0) (by
      rw [List.getD_eq_getElem?_getD, List.getElem?_eq_getElem hpos]
      exact List.getElem_mem _)
    rw [hm] at hm0
    have hfew := parts_few b p x
    have hvs : sumOut x p.word = x.sum p.word := by unfold sumOut; rw [hx]; rfl
    refine ⟨0, b.turn, ⟨n, mkB (List.replicate (n * n) 46), mkB (List.replicate (n * n) 46)⟩, b.bare.parts p x, x.sum p.word, ⟨fun W h2 => ?_, fun W => ?_, fun W => TransposePlay_any p W, fun W h1 h2 => ?_, fun W => ?_, fun W h1 h2 => ?_, fun W h1 => ?_, hb1, hpos, by omega, by rw [letterL_len]; omega, hb2, hm, hm0.1, by omega, sums_fit hpr (by decide) (by omega), sums_fit hlr (by decide) (by rw [letterL_len]; omega), ?_⟩⟩
    · refine (WordsFormed_any b p W hf hw2 h2).mono ?_
      intro e w' h
      unfold WordsPost at h
      rw [hk] at h
      obtain ⟨g, cap, rfl, _, hd⟩ := h
      rw [words_parts b p x]
      exact ⟨g, cap, rfl, hd⟩
    · have := TransposeBoard_any b W hf
      rwa [turn_yes hp.good.ok] at this
    · have := ScorePlay_any x q b.turn p.turn W h1 hft hxs (fits_brd hp.good.turn) hw2 h2
      refine this.mono ?_
      intro e w' h
      unfold ScorePost at h
      rw [hx, hp.good.turn_play, hk, hp.good.turn_score] at h
      exact h
    · rw [hsz]
      exact specEmpty_any n W hlo hhi
    · have := ScoreParts_any x q b.bare p W h1 hft hxs (fits_brd hbare) hw2 h2
      rw [hbb] at this
      refine this.mono ?_
      intro e w' h
      rw [← hbb] at h
      unfold PartsPost at h
      rw [hx, hbk] at h
      obtain ⟨g, cap, rfl, ho, hd⟩ := h
      refine ⟨g, cap, by rw [hb1], own_slice I64.enc_len ho rfl, hd⟩
    · have := LettersValue_any x q p.word W h1 hft hxs hw2
      rwa [hvs] at this
    · show b.score p x = _
      unfold Brd.score
      rw [mkB_size]
      unfold Brd.premL
      rw [List.length_map]
end Go.Proofs.YtjdcdhhbgijaoaaGreatDoor
