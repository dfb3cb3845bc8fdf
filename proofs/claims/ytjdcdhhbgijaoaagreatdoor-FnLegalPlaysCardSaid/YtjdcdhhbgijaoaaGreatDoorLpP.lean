/- Contract: the program's WordsFormed. Go's tables of unicode and unicode/utf8 hold what is  · What the law FnPlays asks of a board and a play, in one shape for valid and other plays. G -/
import Derived.Test.YtjdcdhhbgijaoaaGreatDoorPlbH
import Derived.Test.YtjdcdhhbgijaoaaGreatDoorFpS
import Derived.Test.YtjdcdhhbgijaoaaGreatDoorFpN
import Derived.Test.YtjdcdhhbgijaoaaGreatDoorWoB
namespace Go.Proofs.YtjdcdhhbgijaoaaGreatDoor
open Go.ChangeShapes Go.WideShapes Go.ChangeAt Go.RowKit Go.Sort

set_option maxRecDepth 100000 in
set_option maxHeartbeats 2000000 in
theorem WordsFormed_any (b : Brd) (p : Ply) (w : World) (hf : b.fit) (hs : p.word.size ≤ 1048576) (hE : CEnv w) :
    Calls Tryz.prog 18 #[.agg #[.int .i64 b.size, .string b.premium, .string b.cells], .agg #[.int .i64 p.row, .int .i64 p.col, .bool p.down, .string p.word]] w (WordsPost b p w) := by
  obtain ⟨w2, hw2⟩ : ∃ w2, w2 = (w.alloc (.cells #[.int .i64 b.size, .string b.premium, .string b.cells] 25)).alloc (.cells #[.int .i64 p.row, .int .i64 p.col, .bool p.down, .string p.word] 30) := ⟨_, rfl⟩
  have hb : Below w.heap.size w w2 := by rw [hw2]; exact ((Below.refl _ _).alloc (Nat.le_refl _) _).alloc (by simp) _
  have VB : Hid (VarAt w2 w.heap.size 25 [.int .i64 b.size, .string b.premium, .string b.cells]) := by
    rw [hw2]
    exact Lib.hid ((VarAt.new w 25 [.int .i64 b.size, .string b.premium, .string b.cells]).kept ((Below.refl _ _).alloc (Nat.le_refl _) _))
  have VP : Hid (VarAt w2 (w.heap.size + 1) 30 [.int .i64 p.row, .int .i64 p.col, .bool p.down, .string p.word]) := by
    rw [hw2]
    have := VarAt.new (w.alloc (.cells #[.int .i64 b.size, .string b.premium, .string b.cells] 25)) 30 [.int .i64 p.row, .int .i64 p.col, .bool p.down, .string p.word]
    simp only [World.size_alloc] at this
    exact Lib.hid this
  have HE := Lib.hid (hE.kept hb)
  have HW2 := Lib.hid hw2
  clear hw2 hE
  cases hk : b.okPlay p with
  | false =>
    refine Calls.mono (R := fun e w' => e = .returned (.tuple #[.slice none 0 0, .int .i64 1]) ∧ Below w.heap.size w w') ?_ (words_no hk)
    go_enter Tryz.func18, Tryz.ntmps18
    go_upto_region 1 with fail
    rw [← HW2.out]
    clear HW2
    have b0 := VB.out.cell (i := 0) rfl
    have b1 := VB.out.cell (i := 1) rfl
    have b2 := VB.out.cell (i := 2) rfl
    have c0 := VP.out.cell (i := 0) rfl
    have c1 := VP.out.cell (i := 1) rfl
    have c2 := VP.out.cell (i := 2) rfl
    have c3 := VP.out.cell (i := 3) rfl
    go_wp2_with fail
    refine (ValidPlay_any b p _ hf hs HE.out).mono ?_
    rintro e w3 ⟨rfl, hd⟩
    rw [hk]
    have hb2 := hb.trans (hd.mono hb.size)
    clear hd hk
    go_wp2
    go_ret2
    exact ⟨rfl, hb2⟩
  | true =>
    obtain ⟨n, hpg⟩ := okPlay_good hk
    have HWF : Hid (∀ W, Calls Tryz.prog 83 #[.agg #[.int .i64 b.size, .string b.premium, .string b.cells], .agg #[.int .i64 p.row, .int .i64 p.col, .bool p.down, .string p.word]] W (TextsPost W (b.words p))) := Lib.hid (fun W => wordsFormed_any b p n W hpg)
    clear hpg
    refine Calls.mono (R := fun e w' => ∃ g cap, e = .returned (.tuple #[.slice (some ⟨g, 0, none⟩) (b.words p).length cap, .int .i64 0]) ∧ w'.ownsRow w.heap.size 9 1 (.slice (some ⟨g, 0, none⟩) (b.words p).length cap) (b.words p).length ((b.words p).flatMap Tx.enc) ∧ Below w.heap.size w w') ?_ (words_yes hk)
    go_enter Tryz.func18, Tryz.ntmps18
    go_upto_region 1 with fail
    rw [← HW2.out]
    clear HW2
    have b0 := VB.out.cell (i := 0) rfl
    have b1 := VB.out.cell (i := 1) rfl
    have b2 := VB.out.cell (i := 2) rfl
    have c0 := VP.out.cell (i := 0) rfl
    have c1 := VP.out.cell (i := 1) rfl
    have c2 := VP.out.cell (i := 2) rfl
    have c3 := VP.out.cell (i := 3) rfl
    go_wp2_with fail
    refine (ValidPlay_any b p _ hf hs HE.out).mono ?_
    rintro e w3 ⟨rfl, hd⟩
    rw [hk]
    clear hk
    replace hb := hb.trans (hd.mono hb.size)
    replace b0 := cell_kept b0 hd
    replace b1 := cell_kept b1 hd
    replace b2 := cell_kept b2 hd
    replace c0 := cell_kept c0 hd
    replace c1 := cell_kept c1 hd
    replace c2 := cell_kept c2 hd
    replace c3 := cell_kept c3 hd
    replace VB := Lib.hid (VB.out.kept hd)
    replace VP := Lib.hid (VP.out.kept hd)
    clear hd
    have b0 := VB.out.cell (i := 0) rfl
    have b1 := VB.out.cell (i := 1) rfl
    have b2 := VB.out.cell (i := 2) rfl
    have c0 := VP.out.cell (i := 0) rfl
    have c1 := VP.out.cell (i := 1) rfl
    have c2 := VP.out.cell (i := 2) rfl
    have c3 := VP.out.cell (i := 3) rfl
    go_wp2_with fail
    refine (HWF.out _).mono ?_
    rintro e w4 ⟨g, cap, rfl, hx, hd⟩
    have HX := Lib.hid (own_mono hx hb.size)
    have hb2 := hb.trans (hd.mono hb.size)
    clear b0 b1 b2 c0 c1 c2 c3 hd hx hb VB VP
    go_wp2
    go_ret2
    exact ⟨g, cap, rfl, HX.out, hb2⟩
end Go.Proofs.YtjdcdhhbgijaoaaGreatDoor
namespace Go.Proofs.YtjdcdhhbgijaoaaGreatDoor
open Go.ChangeShapes Go.WideShapes Go.ChangeAt Go.RowKit Go.Sort

def sqL (b : Brd) (p : Ply) : List (Int × Int) := if b.okPlay p then (b.fresh p).map (sqOf p) else []
def wdL (b : Brd) (p : Ply) : List ByteArray := if b.okPlay p then b.words p else []
def codeP (b : Brd) (p : Ply) : Int := if b.okPlay p then 0 else 1
theorem code_make (b : Brd) (p : Ply) : (makeOut b p).2 = codeP b p := by unfold makeOut codeP; split <;> rfl
theorem code_tiles (b : Brd) (p : Ply) : (tilesOut b p).2 = codeP b p := by unfold tilesOut codeP; split <;> rfl
def SqL (b : Brd) (p : Ply) (w : World) (e : Ending) (w' : World) : Prop :=
  ∃ a cap, e = .returned (.tuple #[.slice a (sqL b p).length cap, .int .i64 (codeP b p)]) ∧ SliceAt w' 2 Sq.enc a (sqL b p) ∧ Below w.heap.size w w'
def WdL (b : Brd) (p : Ply) (w : World) (e : Ending) (w' : World) : Prop :=
  ∃ a cap, e = .returned (.tuple #[.slice a (wdL b p).length cap, .int .i64 (codeP b p)]) ∧ SliceAt w' 1 Tx.enc a (wdL b p) ∧ Below w.heap.size w w'
theorem sqPost_l {b : Brd} {p : Ply} {w : World} {e : Ending} {w' : World} (h : SqPost b p w e w') : SqL b p w e w' := by
  unfold SqPost at h
  unfold SqL
  cases hk : b.okPlay p with
  | false =>
    rw [hk] at h
    obtain ⟨rfl, hb⟩ := h
    have e1 : sqL b p = [] := by unfold sqL; rw [hk]; rfl
    have e2 : codeP b p = 1 := by unfold codeP; rw [hk]; rfl
    rw [e1, e2]
    exact ⟨none, 0, rfl, SliceAt.nil _ _ _ _, hb⟩
  | true =>
    rw [hk, if_pos rfl] at h
    obtain ⟨g, cap, rfl, ho, hb⟩ := h
    have e1 : sqL b p = (b.fresh p).map (sqOf p) := by unfold sqL; rw [hk]; rfl
    have e2 : codeP b p = 0 := by unfold codeP; rw [hk]; rfl
    rw [e1, e2, List.length_map]
    exact ⟨some ⟨g, 0, none⟩, cap, rfl, own_slice (enc := Sq.enc) (sz := 2) (fun _ => rfl) ho (List.length_map _).symm, hb⟩
theorem wordsPost_l {b : Brd} {p : Ply} {w : World} {e : Ending} {w' : World} (h : WordsPost b p w e w') : WdL b p w e w' := by
  unfold WordsPost at h
  unfold WdL
  cases hk : b.okPlay p with
  | false =>
    rw [hk] at h
    obtain ⟨rfl, hb⟩ := h
    have e1 : wdL b p = [] := by unfold wdL; rw [hk]; rfl
    have e2 : codeP b p = 1 := by unfold codeP; rw [hk]; rfl
    rw [e1, e2]
    exact ⟨none, 0, rfl, SliceAt.nil _ _ _ _, hb⟩
  | true =>
    rw [hk, if_pos rfl] at h
    obtain ⟨g, cap, rfl, ho, hb⟩ := h
    have e1 : wdL b p = b.words p := by unfold wdL; rw [hk]; rfl
    have e2 : codeP b p = 0 := by unfold codeP; rw [hk]; rfl
    rw [e1, e2]
    exact ⟨some ⟨g, 0, none⟩, cap, rfl, own_slice Tx.enc_len ho rfl, hb⟩
/-- what is known of a play that fits -/
structure Fits (b : Brd) (p : Ply) (X : Brd) (T : ByteArray) (L : List (Int × Int)) (Wd : List ByteArray) : Prop where
  good : ∃ n, X.Good n
  okB : b.ok = true
  tiles : (onOut b).2 = 5 ∨ ((onOut b).2 = 0 ∧ (onOut X).2 = (addOut (onOut b).1 T).2 ∧ ((onOut X).2 = 5 ∨ (onOut X).2 = 0 ∧ (onOut X).1 = (addOut (onOut b).1 T).1))
  before : ∀ s ∈ L, atOut b s.1 s.2 = 46
  after : ∀ s ∈ L, atOut X s.1 s.2 ≠ 46
  words : ∀ x ∈ Wd, hasB X.wordsOn x = true
  many : L.length = T.size
  some : 0 < L.length
  again : X.okPlay p = false
  short : X.wordsOn.length ≤ 1048576
  fitX : X.fit
  sizeA : (onOut b).1.size ≤ 9223372036854775807
  sizeT : T.size ≤ 9223372036854775807
theorem good_fit {b : Brd} {n : Nat} (h : b.Good n) : b.fit := by
  have h1 := sq_mono h.hi
  have h2 := h.prem
  have h3 := h.cells
  exact ⟨by omega, by omega⟩
theorem words_short {b : Brd} {n : Nat} (h : b.Good n) : b.wordsOn.length ≤ 1048576 := by
  have h1 := rowsW_len h.cells h.hi n (Nat.le_refl _)
  have h2 := rowsW_len h.turn.cells h.hi n (Nat.le_refl _)
  have h3 := h.hi
  rw [h.words_rows, List.length_append]
  omega
theorem sqs_mem {b : Brd} {p : Ply} {s : Int × Int} (h : s ∈ (b.fresh p).map (sqOf p)) : ∃ i : Nat, i ∈ b.fresh p ∧ s = (p.sr i, p.sc i) := by
  obtain ⟨i, hi, rfl⟩ := List.mem_map.1 h
  exact ⟨i, hi, rfl⟩
theorem has_mem {xs : List ByteArray} {x : ByteArray} (h : x ∈ xs) : hasB xs x = true := by
  unfold hasB
  rw [List.any_eq_true]
  exact ⟨x, h, beq_self_eq_true _⟩
theorem play_fits {b : Brd} {p : Ply} (hk : b.okPlay p = true) : Fits b p (makeOut b p).1 (tilesOut b p).1 (sqL b p) (wdL b p) := by
  obtain ⟨n, h⟩ := okPlay_good hk
  have hok := h.good.ok
  have hokX := h.made_good.ok
  have e1 : sqL b p = (b.fresh p).map (sqOf p) := by unfold sqL; rw [hk]; rfl
  have e2 : wdL b p = b.words p := by unfold wdL; rw [hk]; rfl
  rw [make_yes hk, tilesOut_yes hk, e1, e2]
  refine ⟨⟨n, h.made_good⟩, hok, ?_, ?_, ?_, ?_, ?_, ?_, h.not_again, ?_, good_fit h.made_good, ?_, ?_⟩
  · by_cases hm : 120 < b.many
    · exact .inl (by rw [on_many hok hm])
    · refine .inr ⟨by rw [on_yes hok hm], ?_⟩
      have hp1 : pileOk b.pile = true := srt_pile h.good.pile_tiles (by
        show ((lettersL b.cells.data.toList).map tlC).length ≤ 120
        rw [List.length_map]
        show b.many ≤ 120
        omega)
      have hp2 : pileOk (srtL (b.tiles p)) = true := srt_pile (scTiles_all h) (by
        have := h.tiles_len
        rw [srt_len (scTiles_all h)] at this
        have h2 := h.made_many
        have h3 := h.twelve
        have h4 : (b.fresh p).length ≤ p.word.size := by
          unfold Brd.fresh freshL
          exact Nat.le_trans (List.length_filter_le _ _) (by rw [List.length_range]; simp)
        omega)
      have hq1 : pileOk (mkB b.pile).data.toList = true := by rw [mkB_data]; exact hp1
      have hq2 : pileOk (mkB (srtL (b.tiles p))).data.toList = true := by rw [mkB_data]; exact hp2
      have hz : (mkB b.pile).size + (mkB (srtL (b.tiles p))).size = (b.made p).many := by
        rw [mkB_size, mkB_size, h.good.pile_len, h.tiles_len, h.made_many]
      rw [on_yes hok hm]
      by_cases hm2 : 120 < (b.made p).many
      · rw [on_many hokX hm2, add_many hq1 hq2 (by omega)]
        exact ⟨rfl, .inl rfl⟩
      · rw [on_yes hokX hm2, add_yes hq1 hq2 (by omega)]
        refine ⟨rfl, .inr ⟨rfl, ?_⟩⟩
        show mkB (b.made p).pile = mkB (srtL (mkB b.pile ++ mkB (srtL (b.tiles p))).data.toList)
        rw [cat_list, mkB_data, mkB_data, h.made_pile]
  · intro s hs
    obtain ⟨i, hi, rfl⟩ := sqs_mem hs
    rw [at_yes hok]
    exact (h.fresh_cell hi).1
  · intro s hs
    obtain ⟨i, hi, rfl⟩ := sqs_mem hs
    rw [at_yes hokX]
    exact (h.fresh_cell hi).2
  · exact fun x hx => has_mem (h.formed_on x hx)
  · rw [List.length_map, mkB_size, h.tiles_len]
  · rw [List.length_map]
    exact h.some_fresh
  · exact words_short h.made_good
  · by_cases hm : 120 < b.many
    · rw [on_many hok hm]; exact Nat.zero_le _
    · rw [on_yes hok hm]
      show (mkB b.pile).size ≤ _
      rw [mkB_size, h.good.pile_len]
      omega
  · show (mkB (srtL (b.tiles p))).size ≤ _
    rw [mkB_size, h.tiles_len]
    have h3 := h.twelve
    have h4 : (b.fresh p).length ≤ p.word.size := by
      unfold Brd.fresh freshL
      exact Nat.le_trans (List.length_filter_le _ _) (by rw [List.length_range]; simp)
    omega
theorem sqL_len (b : Brd) (p : Ply) : (sqL b p).length ≤ p.word.size := by
  unfold sqL
  split
  · rw [List.length_map]
    unfold Brd.fresh freshL
    exact Nat.le_trans (List.length_filter_le _ _) (by rw [List.length_range]; simp)
  · exact Nat.zero_le _
theorem wdL_len (b : Brd) (p : Ply) : (wdL b p).length ≤ p.word.size + 1 := by
  unfold wdL
  split
  · unfold Brd.words Brd.formed
    rw [List.length_map, List.length_cons]
    have h1 : (acrossL (b.view p) p.r p.c p.word.data.toList (b.fresh p)).length ≤ (b.fresh p).length := by
      unfold acrossL
      exact Nat.le_trans (List.length_filter_le _ _) (by rw [List.length_map]; exact Nat.le_refl _)
    have h2 : (b.fresh p).length ≤ p.word.size := by
      unfold Brd.fresh freshL
      exact Nat.le_trans (List.length_filter_le _ _) (by rw [List.length_range]; simp)
    omega
  · exact Nat.zero_le _
/-- all that the law asks of a board and a play -/
structure Known (b : Brd) (p : Ply) (X : Brd) (cd : Int) (T : ByteArray) (L : List (Int × Int)) (Wd : List ByteArray) (vp : Bool) : Prop where
  mk1 : ∀ W, CEnv W → Calls Tryz.prog 19 #[.agg #[.int .i64 b.size, .string b.premium, .string b.cells], .agg #[.int .i64 p.row, .int .i64 p.col, .bool p.down, .string p.word]] W fun e w' => e = .returned (.tuple #[.agg #[.int .i64 X.size, .string X.premium, .string X.cells], .int .i64 cd]) ∧ Below W.heap.size W w'
  mk2 : ∀ W, Calls Tryz.prog 42 #[.agg #[.int .i64 b.size, .string b.premium, .string b.cells], .agg #[.int .i64 p.row, .int .i64 p.col, .bool p.down, .string p.word]] W fun e w' => e = .returned (.tuple #[.agg #[.int .i64 X.size, .string X.premium, .string X.cells], .int .i64 cd]) ∧ Below W.heap.size W w'
  sq1 : ∀ W, CEnv W → Calls Tryz.prog 43 #[.agg #[.int .i64 b.size, .string b.premium, .string b.cells], .agg #[.int .i64 p.row, .int .i64 p.col, .bool p.down, .string p.word]] W fun e w' => ∃ a cap, e = .returned (.tuple #[.slice a L.length cap, .int .i64 cd]) ∧ SliceAt w' 2 Sq.enc a L ∧ Below W.heap.size W w'
  sq2 : ∀ W, Calls Tryz.prog 44 #[.agg #[.int .i64 b.size, .string b.premium, .string b.cells], .agg #[.int .i64 p.row, .int .i64 p.col, .bool p.down, .string p.word]] W fun e w' => ∃ a cap, e = .returned (.tuple #[.slice a L.length cap, .int .i64 cd]) ∧ SliceAt w' 2 Sq.enc a L ∧ Below W.heap.size W w'
  tl1 : ∀ W, CEnv W → Calls Tryz.prog 40 #[.agg #[.int .i64 b.size, .string b.premium, .string b.cells], .agg #[.int .i64 p.row, .int .i64 p.col, .bool p.down, .string p.word]] W fun e w' => e = .returned (.tuple #[.string T, .int .i64 cd]) ∧ Below W.heap.size W w'
  tl2 : ∀ W, Calls Tryz.prog 45 #[.agg #[.int .i64 b.size, .string b.premium, .string b.cells], .agg #[.int .i64 p.row, .int .i64 p.col, .bool p.down, .string p.word]] W fun e w' => e = .returned (.tuple #[.string T, .int .i64 cd]) ∧ Below W.heap.size W w'
  wd1 : ∀ W, CEnv W → Calls Tryz.prog 18 #[.agg #[.int .i64 b.size, .string b.premium, .string b.cells], .agg #[.int .i64 p.row, .int .i64 p.col, .bool p.down, .string p.word]] W fun e w' => ∃ a cap, e = .returned (.tuple #[.slice a Wd.length cap, .int .i64 cd]) ∧ SliceAt w' 1 Tx.enc a Wd ∧ Below W.heap.size W w'
  wd2 : ∀ W, Calls Tryz.prog 46 #[.agg #[.int .i64 b.size, .string b.premium, .string b.cells], .agg #[.int .i64 p.row, .int .i64 p.col, .bool p.down, .string p.word]] W fun e w' => ∃ a cap, e = .returned (.tuple #[.slice a Wd.length cap, .int .i64 cd]) ∧ SliceAt w' 1 Tx.enc a Wd ∧ Below W.heap.size W w'
  vp1 : ∀ W, CEnv W → Calls Tryz.prog 48 #[.agg #[.int .i64 b.size, .string b.premium, .string b.cells], .agg #[.int .i64 p.row, .int .i64 p.col, .bool p.down, .string p.word]] W fun e w' => e = .returned (.bool vp) ∧ Below W.heap.size W w'
  lenL : L.length ≤ 9223372036854775807
  lenW : Wd.length ≤ 9223372036854775807
  code : (vp = true ∧ cd = 0 ∧ Fits b p X T L Wd) ∨ (vp = false ∧ cd = 1)
theorem known (b : Brd) (p : Ply) (hf : b.fit) (hw : p.word.size ≤ 1048576) : ∃ X cd T L Wd vp, Known b p X cd T L Wd vp := by
  have hpf : p.fit := Nat.le_trans hw (by decide)
  have h1 := code_make b p
  have h2 := code_tiles b p
  have h3 := sqL_len b p
  have h4 := wdL_len b p
  refine ⟨(makeOut b p).1, codeP b p, (tilesOut b p).1, sqL b p, wdL b p, b.okPlay p, ⟨fun W h => ?_, fun W => ?_, fun W h => (NewSquares_any b p W hf hw h).mono fun _ _ k => sqPost_l k, fun W => (specNewSquares_any b p W hf hpf).mono fun _ _ k => sqPost_l k, fun W h => ?_, fun W => ?_, fun W h => (WordsFormed_any b p W hf hw h).mono fun _ _ k => wordsPost_l k, fun W => (specWordsFormed_any b p W hf hpf).mono fun _ _ k => wordsPost_l k, fun W h => ValidPlay_any b p W hf hw h, by omega, by omega, ?_⟩⟩
  · rw [← h1]; exact MakePlay_any b p W hf hw h
  · rw [← h1]; exact specMakePlay_any b p W hf hpf
  · rw [← h2]; exact PlacedTiles_any b p W hf hw h
  · rw [← h2]; exact specPlacedTiles_any b p W hf hpf
  · cases hk : b.okPlay p with
    | true => exact .inl ⟨rfl, by unfold codeP; rw [hk]; rfl, play_fits hk⟩
    | false => exact .inr ⟨rfl, by unfold codeP; rw [hk]; rfl⟩
end Go.Proofs.YtjdcdhhbgijaoaaGreatDoor
