/- What the law FnLegalPlays asks of a board, words, a rack and a play that is legal. Go's tables (CEnv), internal/bytealg's MaxLen (EnvL). -/
import Derived.Test.YtjdcdhhbgijaoaaGreatDoorJnC
import Derived.Test.YtjdcdhhbgijaoaaGreatDoorJnD
import Derived.Test.YtjdcdhhbgijaoaaGreatDoorLpP
import Derived.Test.YtjdcdhhbgijaoaaGreatDoorLgH
namespace Go.Proofs.YtjdcdhhbgijaoaaGreatDoor
open Go.ChangeShapes Go.WideShapes Go.ChangeAt Go.RowKit Go.Sort

theorem legal_zero {b : Brd} {ws : List ByteArray} {rack : ByteArray} {p : Ply} (h : b.legalPlay ws rack p = 0) : b.ok = true ∧ lexOk ws = true ∧ rackOk rack.data.toList = true ∧ b.okPlay p = true ∧ hasT rack.data.toList (b.tiles p) = true ∧ b.touch p = true ∧ (wrongL ws (b.words p)).length = 0 := by
  have hall : (b.ok && (lexOk ws && rackOk rack.data.toList)) = true := by
    cases h0 : (b.ok && (lexOk ws && rackOk rack.data.toList)) with
    | true => rfl
    | false => unfold Brd.legalPlay at h; rw [if_pos h0] at h; exact absurd h (by decide)
  have h' : b.legal ws rack p = 0 := by
    unfold Brd.legalPlay at h
    rwa [if_neg (by rw [hall]; decide)] at h
  have k1 : b.okPlay p = true := by
    cases e : b.okPlay p with
    | true => rfl
    | false => rw [legal_range e] at h'; exact absurd h' (by decide)
  have k2 : hasT rack.data.toList (b.tiles p) = true := by
    cases e : hasT rack.data.toList (b.tiles p) with
    | true => rfl
    | false => rw [legal_found k1 e] at h'; exact absurd h' (by decide)
  have k3 : b.touch p = true := by
    cases e : b.touch p with
    | true => rfl
    | false => rw [legal_state k1 k2 e] at h'; exact absurd h' (by decide)
  have k4 : b.double p = false := by
    cases e : b.double p with
    | false => rfl
    | true => rw [legal_exists k1 k2 k3 e] at h'; exact absurd h' (by decide)
  rw [legal_illegal k1 k2 k3 k4] at h'
  have k5 : (wrongL ws (b.words p)).length = 0 := by
    by_cases e : 0 < (wrongL ws (b.words p)).length
    · rw [if_pos e] at h'; exact absurd h' (by decide)
    · omega
  simp only [Bool.and_eq_true] at hall
  exact ⟨hall.1, hall.2.1, hall.2.2, k1, k2, k3, k5⟩
/-- what the law asks -/
structure LegK (b : Brd) (p : Ply) (g cap : Nat) (ws : List ByteArray) (rack : ByteArray) (X : Brd) (T : ByteArray) (B A : List ByteArray) (j1 j2 : Bool) : Prop where
  mp : ∀ W, CEnv W → Calls Tryz.prog 19 #[.agg #[.int .i64 b.size, .string b.premium, .string b.cells], .agg #[.int .i64 p.row, .int .i64 p.col, .bool p.down, .string p.word]] W fun e w' => e = .returned (.tuple #[.agg #[.int .i64 X.size, .string X.premium, .string X.cells], .int .i64 0]) ∧ Below W.heap.size W w'
  on1 : ∀ W, EnvL W → Calls Tryz.prog 52 #[.agg #[.int .i64 b.size, .string b.premium, .string b.cells]] W fun e w' => ∃ a cap, e = .returned (.tuple #[.slice a B.length cap, .int .i64 0]) ∧ SliceAt w' 1 Tx.enc a B ∧ Below W.heap.size W w'
  on2 : ∀ W, EnvL W → Calls Tryz.prog 52 #[.agg #[.int .i64 X.size, .string X.premium, .string X.cells]] W fun e w' => ∃ a cap, e = .returned (.tuple #[.slice a A.length cap, .int .i64 0]) ∧ SliceAt w' 1 Tx.enc a A ∧ Below W.heap.size W w'
  wr : ∀ W, CEnv W → SliceAt W 1 Tx.enc (some ⟨g, 0, none⟩) ws → Calls Tryz.prog 61 #[.agg #[.int .i64 b.size, .string b.premium, .string b.cells], .agg #[.slice (some ⟨g, 0, none⟩) ws.length cap], .agg #[.int .i64 p.row, .int .i64 p.col, .bool p.down, .string p.word]] W fun e w' => ∃ h c : Nat, e = .returned (.tuple #[.slice (some ⟨h, 0, none⟩) 0 c, .int .i64 0]) ∧ Below W.heap.size W w'
  pl : ∀ W, CEnv W → Calls Tryz.prog 40 #[.agg #[.int .i64 b.size, .string b.premium, .string b.cells], .agg #[.int .i64 p.row, .int .i64 p.col, .bool p.down, .string p.word]] W fun e w' => e = .returned (.tuple #[.string T, .int .i64 0]) ∧ Below W.heap.size W w'
  ct : ∀ W, Calls Tryz.prog 65 #[.string rack, .string T] W fun e w' => e = .returned (.bool true) ∧ Below W.heap.size W w'
  jn1 : ∀ W, EnvL W → Calls Tryz.prog 66 #[.agg #[.int .i64 b.size, .string b.premium, .string b.cells]] W fun e w' => e = .returned (.bool j1) ∧ Below W.heap.size W w'
  jn2 : ∀ W, EnvL W → Calls Tryz.prog 66 #[.agg #[.int .i64 X.size, .string X.premium, .string X.cells]] W fun e w' => e = .returned (.bool j2) ∧ Below W.heap.size W w'
  jj : j1 = true → j2 = true
  hw : ∀ x W, SliceAt W 1 Tx.enc (some ⟨g, 0, none⟩) ws → Calls Tryz.prog 67 #[.agg #[.slice (some ⟨g, 0, none⟩) ws.length cap], .string x] W fun e w' => e = .returned (.bool (hasW ws x)) ∧ Below W.heap.size W w'
  lenB : B.length ≤ 1048576
  lenA : A.length ≤ 1048576
  all : (∀ k (h : k < B.length), hasW ws B[k] = true) → ∀ k (h : k < A.length), hasW ws A[k] = true
theorem legalK {b : Brd} {p : Ply} {g cap : Nat} {ws : List ByteArray} {rack : ByteArray} (hf : b.fit) (hw : p.word.size ≤ 1048576) (hl : ws.length ≤ 9223372036854775807) (hwf : WordsFit ws) (hr : rack.size ≤ 9223372036854775807) (h : b.legalPlay ws rack p = 0) : ∃ X T B A j1 j2, LegK b p g cap ws rack X T B A j1 j2 := by
  obtain ⟨_, hlx, hrk, hk, ht, htc, hwr⟩ := legal_zero h
  obtain ⟨n, hp⟩ := okPlay_good hk
  have hfX := good_fit hp.made_good
  have hall := scTiles_all hp
  have hz : (srtL (b.tiles p)).length ≤ 12 := by
    rw [hp.tiles_len]
    have h3 := hp.twelve
    have h4 : (b.fresh p).length ≤ p.word.size := by
      unfold Brd.fresh freshL
      exact Nat.le_trans (List.length_filter_le _ _) (by rw [List.length_range]; simp)
    omega
  have hon : ∀ (c : Brd) (m : Nat), c.Good m → c.fit → ∀ W, EnvL W → Calls Tryz.prog 52 #[.agg #[.int .i64 c.size, .string c.premium, .string c.cells]] W fun e w' => ∃ a cap, e = .returned (.tuple #[.slice a c.wordsOn.length cap, .int .i64 0]) ∧ SliceAt w' 1 Tx.enc a c.wordsOn ∧ Below W.heap.size W w' := fun c m hg hcf W e => by
    refine (WordsOn_any c m W hg hcf e).mono ?_
    rintro e w' ⟨g, cap, rfl, ho, hd⟩
    exact ⟨_, cap, rfl, own_slice Tx.enc_len ho rfl, hd⟩
  have hnil : wrongL ws (b.words p) = [] := List.eq_nil_of_length_eq_zero hwr
  refine ⟨b.made p, mkB (srtL (b.tiles p)), b.wordsOn, (b.made p).wordsOn, b.joined, (b.made p).joined, ⟨fun W e => ?_, hon b n hp.good hf, hon _ n hp.made_good hfX, fun W e hs => ?_, fun W e => ?_, fun W => ?_, fun W e => IsJoined_any b n W hp.good hf e, fun W e => IsJoined_any _ n W hp.made_good hfX e, fun hj => ?_, fun x W hs => ?_, words_short hp.good, words_short hp.made_good, fun hB k hkA => ?_⟩⟩
  · have := MakePlay_any b p W hf hw e
    rwa [make_yes hk] at this
  · refine (WrongWords_any b p ws _ cap W hs hf hw hl hwf e).mono ?_
    intro e w' hq
    unfold WrongPost at hq
    rw [hlx, hk, hnil] at hq
    obtain ⟨g, cap, rfl, _, hd⟩ := hq
    exact ⟨g, cap, rfl, hd⟩
  · have := PlacedTiles_any b p W hf hw e
    rwa [tilesOut_yes hk] at this
  · have := ContainsTiles_any rack (mkB (srtL (b.tiles p))) W hr (by rw [mkB_size]; omega)
    rwa [mkB_data, (rack_pile hrk).1, srt_pile hall (by rw [← srt_len hall]; omega), has_congr (fun k _ => cnt_perm (srt_perm hall) k), ht] at this
  · rw [joined_iff] at hj ⊢
    exact hp.joined_made htc hj
  · have := HasWord_any ws _ cap x W hs hl hwf
    rwa [hlx] at this
  · rcases hp.on_formed _ (List.getElem_mem hkA) with hm | hm
    · obtain ⟨i, hi, e⟩ := List.mem_iff_getElem.1 hm
      rw [← e]
      exact hB i hi
    · cases e : hasW ws (b.made p).wordsOn[k] with
      | true => rfl
      | false =>
        have : (b.made p).wordsOn[k] ∈ wrongL ws (b.words p) := List.mem_filter.2 ⟨hm, by rw [e]; rfl⟩
        rw [hnil] at this
        cases this
end Go.Proofs.YtjdcdhhbgijaoaaGreatDoor
