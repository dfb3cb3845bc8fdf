/- Contracts: the scores of the letters of a play: both sides. Go's tables (CEnv). -/
import Derived.Test.YtjdcdhhbgijaoaaGreatDoorScL
import Derived.Test.YtjdcdhhbgijaoaaGreatDoorScE
namespace Go.Proofs.YtjdcdhhbgijaoaaGreatDoor
open Go.ChangeShapes Go.WideShapes Go.ChangeAt Go.RowKit Go.Sort

/-- the scores of the letters of the main word -/
def Brd.letterL (b : Brd) (p : Ply) (x : Tls) : List Int := lettersA x (b.view p) (b.pview p) p.r p.c p.word.data.toList p.word.size
def LettersPost (b : Brd) (p : Ply) (x : Tls) (w : World) (e : Ending) (w' : World) : Prop :=
  if x.ok && b.okPlay p then ∃ g cap, e = .returned (.tuple #[.slice (some ⟨g, 0, none⟩) (b.letterL p x).length cap, .int .i64 0]) ∧ w'.ownsRow w.heap.size 2 1 (.slice (some ⟨g, 0, none⟩) (b.letterL p x).length cap) (b.letterL p x).length ((b.letterL p x).flatMap I64.enc) ∧ Below w.heap.size w w'
  else e = .returned (.tuple #[.slice none 0 0, .int .i64 1]) ∧ Below w.heap.size w w'
theorem lettersP_no {b : Brd} {p : Ply} {x : Tls} {w : World} (h : (x.ok && b.okPlay p) = false) (e : Ending) (w' : World) (k : e = .returned (.tuple #[.slice none 0 0, .int .i64 1]) ∧ Below w.heap.size w w') : LettersPost b p x w e w' := by
  unfold LettersPost
  rw [h]
  exact k
theorem lettersP_yes {b : Brd} {p : Ply} {x : Tls} {w : World} (h1 : x.ok = true) (h2 : b.okPlay p = true) (e : Ending) (w' : World) (k : ∃ g cap, e = .returned (.tuple #[.slice (some ⟨g, 0, none⟩) (b.letterL p x).length cap, .int .i64 0]) ∧ w'.ownsRow w.heap.size 2 1 (.slice (some ⟨g, 0, none⟩) (b.letterL p x).length cap) (b.letterL p x).length ((b.letterL p x).flatMap I64.enc) ∧ Below w.heap.size w w') : LettersPost b p x w e w' := by
  unfold LettersPost
  rw [h1, h2]
  exact k
theorem letterScores_l (x : Tls) (q : TlA) (b : Brd) (p : Ply) (n : Nat) (w : World) (ha : x.At q w) (hx : x.Good) (hp : PGood b p n) :
    Calls Tryz.prog 93 #[.agg #[.string x.letters, .slice q.values.a x.values.length q.values.c, .slice q.counts.a x.counts.length q.counts.c, .int .i64 x.blanks], .agg #[.int .i64 b.size, .string b.premium, .string b.cells], .agg #[.int .i64 p.row, .int .i64 p.col, .bool p.down, .string p.word]] w (NumsPost w (b.letterL p x)) := letterScores_any x q b p n w ha hx hp
theorem flatLetters_any (x : Tls) (q : TlA) (tg : Nat) (b : Brd) (p : Ply) (n : Nat) (g : Nat) (w : World) (ht : TAt w tg x q) (hx : x.Good) (hp : PGood b p n) (hg : BAt w g 0 (b.flat p.down)) :
    Calls Tryz.prog 94 #[.pointer (some ⟨tg, 0, none⟩), .pointer (some ⟨g, 0, none⟩), .agg #[.int .i64 p.flat.row, .int .i64 p.flat.col, .bool p.flat.down, .string p.word]] w (NumsPost w (b.letterL p x)) := by
  have := l13Letters_any x q tg (b.flat p.down) n p.flat.row p.flat.col p.flat.down p.word g 0 w ht hx (hp.good.flat p.down) hg hp.twelve (by rw [Ply.flat_row]; exact hp.r0) (by rw [Ply.flat_row]; exact hp.r1) (by rw [Ply.flat_col]; exact hp.c0) (by rw [Ply.flat_col]; exact hp.c1)
  rw [Ply.flat_row, Ply.flat_col] at this ⊢
  exact this
set_option maxRecDepth 100000 in
set_option maxHeartbeats 4000000 in
theorem LetterScores_any (x : Tls) (q : TlA) (b : Brd) (p : Ply) (w : World) (ha : x.At q w) (hft : x.fit) (hxs : x.letters.size ≤ 1048576) (hf : b.fit) (hs : p.word.size ≤ 1048576) (hE : CEnv w) :
    Calls Tryz.prog 26 #[.agg #[.string x.letters, .slice q.values.a x.values.length q.values.c, .slice q.counts.a x.counts.length q.counts.c, .int .i64 x.blanks], .agg #[.int .i64 b.size, .string b.premium, .string b.cells], .agg #[.int .i64 p.row, .int .i64 p.col, .bool p.down, .string p.word]] w (LettersPost b p x w) := by
  obtain ⟨w2, hw2⟩ : ∃ w2, w2 = ((w.alloc (.cells #[.string x.letters, .slice q.values.a x.values.length q.values.c, .slice q.counts.a x.counts.length q.counts.c, .int .i64 x.blanks] 44)).alloc (.cells #[.int .i64 b.size, .string b.premium, .string b.cells] 25)).alloc (.cells #[.int .i64 p.row, .int .i64 p.col, .bool p.down, .string p.word] 30) := ⟨_, rfl⟩
  have hb : Below w.heap.size w w2 := by rw [hw2]; exact (((Below.refl _ _).alloc (Nat.le_refl _) _).alloc (by simp) _).alloc (by simp; omega) _
  have VT : Hid (VarAt w2 w.heap.size 44 [.string x.letters, .slice q.values.a x.values.length q.values.c, .slice q.counts.a x.counts.length q.counts.c, .int .i64 x.blanks]) := by
    rw [hw2]
    exact Lib.hid (((VarAt.new w 44 [.string x.letters, .slice q.values.a x.values.length q.values.c, .slice q.counts.a x.counts.length q.counts.c, .int .i64 x.blanks]).kept ((Below.refl _ _).alloc (Nat.le_refl _) _)).kept ((Below.refl _ _).alloc (Nat.le_refl _) _))
  have VB : Hid (VarAt w2 (w.heap.size + 1) 25 [.int .i64 b.size, .string b.premium, .string b.cells]) := by
    rw [hw2]
    have := (VarAt.new (w.alloc (.cells #[.string x.letters, .slice q.values.a x.values.length q.values.c, .slice q.counts.a x.counts.length q.counts.c, .int .i64 x.blanks] 44)) 25 [.int .i64 b.size, .string b.premium, .string b.cells]).kept ((Below.refl _ _).alloc (Nat.le_refl _) (.cells #[.int .i64 p.row, .int .i64 p.col, .bool p.down, .string p.word] 30))
    simp only [World.size_alloc] at this
    exact Lib.hid this
  have VP : Hid (VarAt w2 (w.heap.size + 2) 30 [.int .i64 p.row, .int .i64 p.col, .bool p.down, .string p.word]) := by
    rw [hw2]
    have := VarAt.new ((w.alloc (.cells #[.string x.letters, .slice q.values.a x.values.length q.values.c, .slice q.counts.a x.counts.length q.counts.c, .int .i64 x.blanks] 44)).alloc (.cells #[.int .i64 b.size, .string b.premium, .string b.cells] 25)) 30 [.int .i64 p.row, .int .i64 p.col, .bool p.down, .string p.word]
    simp only [World.size_alloc] at this
    exact Lib.hid this
  have HA := Lib.hid ha
  have HW2 := Lib.hid hw2
  have HE := Lib.hid (hE.kept hb)
  clear hw2 ha hE
  have HSC : Hid (∀ sb W, x.At q W → CEnv W → PlAt W sb p → Calls Tryz.prog 86 #[.agg #[.string x.letters, .slice q.values.a x.values.length q.values.c, .slice q.counts.a x.counts.length q.counts.c, .int .i64 x.blanks], .agg #[.int .i64 b.size, .string b.premium, .string b.cells], .slice (some ⟨sb, 0, none⟩) 1 1] W fun e w' => e = .returned (.bool (x.ok && b.okPlay p)) ∧ Below W.heap.size W w') := Lib.hid (fun sb W h1 h2 h3 => scorable_any x q b p sb W h1 hft hxs hf hs h2 h3)
  have HPN := Lib.hid (PlAt.new w2 p 30)
  have hd0 : Below w2.heap.size w2 (w2.alloc (.cells #[.int .i64 p.row, .int .i64 p.col, .bool p.down, .string p.word] 30)) := (Below.refl _ _).alloc (Nat.le_refl _) _
  have HEN := Lib.hid (HE.out.kept hd0)
  have hbn := hb.trans (hd0.mono hb.size)
  have VTN := Lib.hid (VT.out.kept hd0)
  have VBN := Lib.hid (VB.out.kept hd0)
  have VPN := Lib.hid (VP.out.kept hd0)
  clear hd0
  cases hk : (x.ok && b.okPlay p) with
  | false =>
    refine Calls.mono (R := fun e w' => e = .returned (.tuple #[.slice none 0 0, .int .i64 1]) ∧ Below w.heap.size w w') ?_ (lettersP_no hk)
    rw [hk] at HSC
    go_enter Tryz.func26, Tryz.ntmps26
    go_upto_region 1 with fail
    rw [← HW2.out]
    clear HW2
    have t0 := VT.out.cell (i := 0) rfl
    have t1 := VT.out.cell (i := 1) rfl
    have t2 := VT.out.cell (i := 2) rfl
    have t3 := VT.out.cell (i := 3) rfl
    have b0 := VB.out.cell (i := 0) rfl
    have b1 := VB.out.cell (i := 1) rfl
    have b2 := VB.out.cell (i := 2) rfl
    have p0 := VP.out.cell (i := 0) rfl
    have p1 := VP.out.cell (i := 1) rfl
    have p2 := VP.out.cell (i := 2) rfl
    have p3 := VP.out.cell (i := 3) rfl
    go_wp2_with fail
    refine (HSC.out _ _ (HA.out.kept hbn) HEN.out HPN.out).mono ?_
    rintro e w3 ⟨rfl, hd⟩
    have hb2 := hbn.trans (hd.mono hbn.size)
    clear hd t0 t1 t2 t3 b0 b1 b2 p0 p1 p2 p3
    go_wp2
    go_ret2
    exact ⟨rfl, hb2⟩
  | true =>
    obtain ⟨hx, hpk⟩ := (Bool.and_eq_true _ _ ▸ hk : x.ok = true ∧ b.okPlay p = true)
    obtain ⟨n, hpg⟩ := okPlay_good hpk
    have HXG := Lib.hid (Tls.good hx)
    have HPG := Lib.hid hpg
    clear hpg
    refine Calls.mono (R := fun e w' => ∃ g cap, e = .returned (.tuple #[.slice (some ⟨g, 0, none⟩) (b.letterL p x).length cap, .int .i64 0]) ∧ w'.ownsRow w.heap.size 2 1 (.slice (some ⟨g, 0, none⟩) (b.letterL p x).length cap) (b.letterL p x).length ((b.letterL p x).flatMap I64.enc) ∧ Below w.heap.size w w') ?_ (lettersP_yes hx hpk)
    rw [hk] at HSC
    go_enter Tryz.func26, Tryz.ntmps26
    go_upto_region 1 with fail
    rw [← HW2.out]
    clear HW2
    have t0 := VT.out.cell (i := 0) rfl
    have t1 := VT.out.cell (i := 1) rfl
    have t2 := VT.out.cell (i := 2) rfl
    have t3 := VT.out.cell (i := 3) rfl
    have b0 := VB.out.cell (i := 0) rfl
    have b1 := VB.out.cell (i := 1) rfl
    have b2 := VB.out.cell (i := 2) rfl
    have p0 := VP.out.cell (i := 0) rfl
    have p1 := VP.out.cell (i := 1) rfl
    have p2 := VP.out.cell (i := 2) rfl
    have p3 := VP.out.cell (i := 3) rfl
    go_wp2_with fail
    refine (HSC.out _ _ (HA.out.kept hbn) HEN.out HPN.out).mono ?_
    rintro e w3 ⟨rfl, hd⟩
    clear t0 t1 t2 t3 b0 b1 b2 p0 p1 p2 p3
    clear hb VT VB VP
    have hb := hbn
    have VT := VTN
    have VB := VBN
    have VP := VPN
    clear hbn VTN VBN VPN HPN HEN
    replace hb := hb.trans (hd.mono hb.size)
    replace VT := Lib.hid (VT.out.kept hd)
    replace VB := Lib.hid (VB.out.kept hd)
    replace VP := Lib.hid (VP.out.kept hd)
    clear hd
    have t0 := VT.out.cell (i := 0) rfl
    have t1 := VT.out.cell (i := 1) rfl
    have t2 := VT.out.cell (i := 2) rfl
    have t3 := VT.out.cell (i := 3) rfl
    have b0 := VB.out.cell (i := 0) rfl
    have b1 := VB.out.cell (i := 1) rfl
    have b2 := VB.out.cell (i := 2) rfl
    have p0 := VP.out.cell (i := 0) rfl
    have p1 := VP.out.cell (i := 1) rfl
    have p2 := VP.out.cell (i := 2) rfl
    have p3 := VP.out.cell (i := 3) rfl
    have hz := hb.size
    go_wp2_with fail
    refine (letterScores_l x q b p n _ (HA.out.kept hb) HXG.out HPG.out).mono ?_
    rintro e w4 ⟨g1, cap1, rfl, hown, hd⟩
    have HO := Lib.hid (own_mono hown (show w.heap.size ≤ _ by omega))
    have hb2 := hb.trans (hd.mono hb.size)
    clear hd hown t0 t1 t2 t3 b0 b1 b2 p0 p1 p2 p3
    go_wp2
    go_ret2
    exact ⟨g1, cap1, rfl, HO.out, hb2⟩
set_option maxRecDepth 100000 in
set_option maxHeartbeats 4000000 in
theorem specLetterScores_any (x : Tls) (q : TlA) (b : Brd) (p : Ply) (w : World) (ha : x.At q w) (hft : x.fit) (hf : b.fit) (hp : p.fit) :
    Calls Tryz.prog 27 #[.agg #[.string x.letters, .slice q.values.a x.values.length q.values.c, .slice q.counts.a x.counts.length q.counts.c, .int .i64 x.blanks], .agg #[.int .i64 b.size, .string b.premium, .string b.cells], .agg #[.int .i64 p.row, .int .i64 p.col, .bool p.down, .string p.word]] w (LettersPost b p x w) := by
  obtain ⟨w2, hw2⟩ : ∃ w2, w2 = ((w.alloc (.cells #[.string x.letters, .slice q.values.a x.values.length q.values.c, .slice q.counts.a x.counts.length q.counts.c, .int .i64 x.blanks] 44)).alloc (.cells #[.int .i64 b.size, .string b.premium, .string b.cells] 25)).alloc (.cells #[.int .i64 p.row, .int .i64 p.col, .bool p.down, .string p.word] 30) := ⟨_, rfl⟩
  have hb : Below w.heap.size w w2 := by rw [hw2]; exact (((Below.refl _ _).alloc (Nat.le_refl _) _).alloc (by simp) _).alloc (by simp; omega) _
  have HT : Hid (TAt w2 w.heap.size x q) := by
    rw [hw2]
    exact Lib.hid (((TAt.new w x q 44 ha).kept ((Below.refl _ _).alloc (Nat.le_refl _) _)).kept ((Below.refl _ _).alloc (Nat.le_refl _) _))
  have HG : Hid (BAt w2 (w.heap.size + 1) 0 b) := by
    rw [hw2]
    have := (BAt.new (w.alloc (.cells #[.string x.letters, .slice q.values.a x.values.length q.values.c, .slice q.counts.a x.counts.length q.counts.c, .int .i64 x.blanks] 44)) b 25).kept ((Below.refl _ _).alloc (Nat.le_refl _) (.cells #[.int .i64 p.row, .int .i64 p.col, .bool p.down, .string p.word] 30))
    simp only [World.size_alloc] at this
    exact Lib.hid this
  have V0 : Hid (VarAt w2 (w.heap.size + 2) 30 [.int .i64 p.row, .int .i64 p.col, .bool p.down, .string p.word]) := by
    rw [hw2]
    have := VarAt.new ((w.alloc (.cells #[.string x.letters, .slice q.values.a x.values.length q.values.c, .slice q.counts.a x.counts.length q.counts.c, .int .i64 x.blanks] 44)).alloc (.cells #[.int .i64 b.size, .string b.premium, .string b.cells] 25)) 30 [.int .i64 p.row, .int .i64 p.col, .bool p.down, .string p.word]
    simp only [World.size_alloc] at this
    exact Lib.hid this
  have HW2 := Lib.hid hw2
  clear hw2 ha
  have HOK : Hid (∀ W, TAt W w.heap.size x q → Calls Tryz.prog 88 #[.pointer (some ⟨w.heap.size, 0, none⟩)] W fun e w' => e = .returned (.bool x.ok) ∧ Drew W w') := Lib.hid (fun W h => l02Ok_any x q _ W h hft)
  cases hlx : x.ok with
  | false =>
    refine Calls.mono (R := fun e w' => e = .returned (.tuple #[.slice none 0 0, .int .i64 1]) ∧ Below w.heap.size w w') ?_ (lettersP_no (by rw [hlx]; rfl))
    rw [hlx] at HOK
    go_enter Tryz.func27, Tryz.ntmps27
    go_upto_region 1 with fail
    rw [← HW2.out]
    clear HW2 hlx
    go_wp2_with fail
    refine (HOK.out _ HT.out).mono ?_
    rintro e w3 ⟨rfl, hdq⟩
    have hd := hdq.bels
    have hb2 := hb.trans (hd.mono hb.size)
    clear hd hdq
    go_wp2
    go_ret2
    exact ⟨rfl, hb2⟩
  | true =>
    cases hk : b.okPlay p with
    | false =>
      refine Calls.mono (R := fun e w' => e = .returned (.tuple #[.slice none 0 0, .int .i64 1]) ∧ Below w.heap.size w w') ?_ (lettersP_no (by rw [hk, Bool.and_false]))
      rw [hlx] at HOK
      go_enter Tryz.func27, Tryz.ntmps27
      go_upto_region 1 with fail
      rw [← HW2.out]
      clear HW2 hlx
      go_wp2_with fail
      refine (HOK.out _ HT.out).mono ?_
      rintro e w3 ⟨rfl, hdq⟩
      have hd := hdq.bels
      clear hdq
      replace hb := hb.trans (hd.mono hb.size)
      replace HG := Lib.hid (HG.out.kept hd)
      replace V0 := Lib.hid (V0.out.kept hd)
      clear hd
      have c0 := V0.out.cell (i := 0) rfl
      have c1 := V0.out.cell (i := 1) rfl
      have c2 := V0.out.cell (i := 2) rfl
      have c3 := V0.out.cell (i := 3) rfl
      go_wp2_with fail
      refine (l12Ok_any b p _ 0 _ HG.out hf hp).mono ?_
      rintro e w4 ⟨rfl, hd⟩
      rw [hk]
      have hb2 := hb.trans (hd.mono hb.size)
      clear hd hk
      go_wp2
      go_ret2
      exact ⟨rfl, hb2⟩
    | true =>
      obtain ⟨n, hpg⟩ := okPlay_good hk
      have HPG := Lib.hid hpg
      have HX := Lib.hid (Tls.good hlx)
      clear hpg
      have HPA : Hid (∀ x' W, TAt W w.heap.size x q → BAt W x' 0 (b.flat p.down) → Calls Tryz.prog 94 #[.pointer (some ⟨w.heap.size, 0, none⟩), .pointer (some ⟨x', 0, none⟩), .agg #[.int .i64 p.flat.row, .int .i64 p.flat.col, .bool p.flat.down, .string p.word]] W (NumsPost W (b.letterL p x))) := Lib.hid (fun x' W h1 h2 => flatLetters_any x q _ b p n x' W h1 HX.out HPG.out h2)
      refine Calls.mono (R := fun e w' => ∃ g cap, e = .returned (.tuple #[.slice (some ⟨g, 0, none⟩) (b.letterL p x).length cap, .int .i64 0]) ∧ w'.ownsRow w.heap.size 2 1 (.slice (some ⟨g, 0, none⟩) (b.letterL p x).length cap) (b.letterL p x).length ((b.letterL p x).flatMap I64.enc) ∧ Below w.heap.size w w') ?_ (lettersP_yes hlx hk)
      generalize b.letterL p x = xs at *
      rw [hlx] at HOK
      go_enter Tryz.func27, Tryz.ntmps27
      go_upto_region 1 with fail
      rw [← HW2.out]
      clear HW2 hlx
      go_wp2_with fail
      refine (HOK.out _ HT.out).mono ?_
      rintro e w3 ⟨rfl, hdq⟩
      have hd := hdq.bels
      clear hdq
      replace hb := hb.trans (hd.mono hb.size)
      replace HG := Lib.hid (HG.out.kept hd)
      replace V0 := Lib.hid (V0.out.kept hd)
      replace HT := Lib.hid (HT.out.kept hd)
      clear hd
      have c0 := V0.out.cell (i := 0) rfl
      have c1 := V0.out.cell (i := 1) rfl
      have c2 := V0.out.cell (i := 2) rfl
      have c3 := V0.out.cell (i := 3) rfl
      go_wp2_with fail
      refine (l12Ok_any b p _ 0 _ HG.out hf hp).mono ?_
      rintro e w4 ⟨rfl, hd⟩
      rw [hk]
      clear hk
      replace hb := hb.trans (hd.mono hb.size)
      replace c0 := cell_kept c0 hd
      replace c1 := cell_kept c1 hd
      replace c2 := cell_kept c2 hd
      replace c3 := cell_kept c3 hd
      replace HG := Lib.hid (HG.out.kept hd)
      replace HT := Lib.hid (HT.out.kept hd)
      clear hd
      have hz := hb.size
      go_wp2_with fail
      refine (l12Flat_any b p n _ 0 _ HPG.out.good HG.out).mono ?_
      rintro e w5 ⟨rfl, hd⟩
      unfold flatV
      clear c0 c1 c2 c3
      replace hb := hb.trans (hd.mono hb.size)
      replace HT := Lib.hid (HT.out.kept hd)
      clear hd
      generalize b.flat p.down = f at *
      generalize p.flat.row = fr0 at *
      generalize p.flat.col = fc at *
      generalize p.flat.down = fd at *
      have HF : Hid (BAt ((w5.alloc (.cells #[.int .i64 f.size, .string f.premium, .string f.cells] 25)).alloc (.cells #[.int .i64 fr0, .int .i64 fc, .bool fd, .string p.word] 30)) w5.heap.size 0 f) := Lib.hid ((BAt.new w5 f 25).kept ((Below.refl _ _).alloc (Nat.le_refl _) _))
      have hd : Below w5.heap.size w5 ((w5.alloc (.cells #[.int .i64 f.size, .string f.premium, .string f.cells] 25)).alloc (.cells #[.int .i64 fr0, .int .i64 fc, .bool fd, .string p.word] 30)) := ((Below.refl _ _).alloc (Nat.le_refl _) _).alloc (by simp) _
      replace hb := hb.trans (hd.mono hb.size)
      replace HT := Lib.hid (HT.out.kept hd)
      clear hd
      have hz5 := hb.size
      go_wp2_with fail
      refine (HPA.out _ _ HT.out HF.out).mono ?_
      rintro e w6 ⟨g1, cap1, rfl, hown, hd⟩
      have HO := Lib.hid (own_mono hown (show w.heap.size ≤ _ by omega))
      have hb2 := hb.trans (hd.mono hb.size)
      clear hown hd
      go_wp2
      go_ret2
      exact ⟨g1, cap1, rfl, HO.out, hb2⟩
end Go.Proofs.YtjdcdhhbgijaoaaGreatDoor
