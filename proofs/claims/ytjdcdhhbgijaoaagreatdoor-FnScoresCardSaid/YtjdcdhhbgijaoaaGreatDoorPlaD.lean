/- Contracts: the reference's words across. For valid boards. · Contracts: the reference's words that a play forms. For valid plays on valid boards. · Contracts: the reference's test on plays; its WordsFormed. No condition but that lengths fit an int. -/
import Derived.Test.YtjdcdhhbgijaoaaGreatDoorPlaA
import Derived.Test.YtjdcdhhbgijaoaaGreatDoorVar
namespace Go.Proofs.YtjdcdhhbgijaoaaGreatDoor
open Go.ChangeShapes Go.WideShapes Go.ChangeAt Go.RowKit Go.Sort

theorem take_snoc {W : List UInt8} {j : Nat} (h : j < W.length) {x : UInt8} (hx : W[j] = x) : W.take (j + 1) = W.take j ++ [x] := by
  rw [List.take_succ_eq_append_getElem h, hx]
end Go.Proofs.YtjdcdhhbgijaoaaGreatDoor

namespace Go.Proofs.YtjdcdhhbgijaoaaGreatDoor
open Go.ChangeShapes Go.WideShapes Go.ChangeAt Go.RowKit Go.Sort

theorem take_nat {fr : List Nat} {k : Nat} (h : k < fr.length) {i : Nat} (hi : fr[k] = i) : fr.take (k + 1) = fr.take k ++ [i] := by
  rw [List.take_succ_eq_append_getElem h, hi]
theorem row_nat {w : World} {base gf cap : Nat} {fr : List Nat} {n : Nat} (h : w.ownsRow base 2 1 (.slice (some ⟨gf, 0, none⟩) n cap) n (fr.flatMap N64.enc)) {k : Nat} (hk : k < fr.length) {i : Nat} (hi : fr[k] = i) : w.cell? ⟨gf, k, none⟩ = some (.int .i64 (i : Int)) := by
  have h1 := own_news0 h k (.int .i64 (i : Int)) (by
    have := flatMap_get (enc := N64.enc) (sz := 1) N64.enc_len fr hk (j := 0) (by omega)
    rw [Nat.mul_one, Nat.add_zero] at this
    rw [this, hi]
    rfl)
  rwa [Go.Addr.add_lit, Nat.zero_add] at h1
theorem own_new_tx (w : World) (s : ByteArray) (t : TypeId) (base : Nat) (hb : base ≤ w.heap.size) : (w.alloc (.cells #[.string s] t)).ownsRow base t 1 (.slice (some ⟨w.heap.size, 0, none⟩) 1 1) 1 [.string s] :=
  ⟨by simp, .inr ⟨w.heap.size, 1, #[.string s], rfl, hb, heap_alloc_new w _, Nat.le_refl _, by unfold maxLen; omega, by simp, by simp⟩⟩
end Go.Proofs.YtjdcdhhbgijaoaaGreatDoor

namespace Go.Proofs.YtjdcdhhbgijaoaaGreatDoor
open Go.ChangeShapes Go.WideShapes Go.ChangeAt Go.RowKit Go.Sort

/-! ### Plain -/
theorem okPlay_bad {b : Brd} {p : Ply} (h : b.ok = false) : b.okPlay p = false := by unfold Brd.okPlay; rw [h]; rfl
theorem okPlay_word {b : Brd} {p : Ply} (h : mainL p.word.data.toList = false) : b.okPlay p = false := by unfold Brd.okPlay; rw [h, Bool.and_false]; rfl
theorem okPlay_fits {b : Brd} {p : Ply} (h1 : b.ok = true) (h2 : mainL p.word.data.toList = true) : b.okPlay p = fitsF (b.flat p.down).cell (b.flat p.down).size p.flat.row p.flat.col p.word.data.toList := by
  unfold Brd.okPlay Brd.fits Brd.view
  rw [h1, h2, flat_size, Ply.flat_row, Ply.flat_col]
  rfl
theorem main_size {s : ByteArray} (h : mainL s.data.toList = true) : s.size ≤ 12 := by
  have := (mainL_iff.1 h).2.1
  simpa using this
set_option maxRecDepth 100000 in
set_option maxHeartbeats 4000000 in
theorem l12Ok_any (b : Brd) (p : Ply) (g o : Nat) (w : World) (hg : BAt w g o b) (hf : b.fit) (hp : p.fit) :
    Calls Tryz.prog 81 #[.pointer (some ⟨g, o, none⟩), .agg #[.int .i64 p.row, .int .i64 p.col, .bool p.down, .string p.word]] w fun e w' => e = .returned (.bool (b.okPlay p)) ∧ Below w.heap.size w w' := by
  have hlt := hg.lt
  have hpw : p.word.size ≤ 9223372036854775807 := hp
  have hb : Below w.heap.size w (w.alloc (.cells #[.int .i64 p.row, .int .i64 p.col, .bool p.down, .string p.word] 30)) := (Below.refl _ _).alloc (Nat.le_refl _) _
  have V0 := Lib.hid (VarAt.new w 30 [.int .i64 p.row, .int .i64 p.col, .bool p.down, .string p.word])
  have HG := Lib.hid (hg.kept hb)
  clear hg
  cases h1 : b.ok with
  | false =>
    have HN := Lib.hid (okPlay_bad (p := p) h1)
    go_enter Tryz.func81, Tryz.ntmps81
    go_upto_region 1 with fail
    generalize w.alloc (.cells #[.int .i64 p.row, .int .i64 p.col, .bool p.down, .string p.word] 30) = w1 at *
    go_wp2_with fail
    refine (l11Ok_any b g o _ HG.out hf).mono ?_
    rintro e w2 ⟨rfl, hdq⟩
    have hd := hdq.bels
    clear hdq
    replace hb := hb.trans (hd.mono hb.size)
    replace V0 := Lib.hid (V0.out.kept hd)
    replace HG := Lib.hid (HG.out.kept hd)
    clear hd
    rw [h1]
    clear h1
    go_wp2
    go_ret
    exact ⟨ret_bool HN.out.symm, hb⟩
  | true =>
    cases h2 : mainL p.word.data.toList with
    | false =>
      have HN := Lib.hid (okPlay_word (b := b) h2)
      go_enter Tryz.func81, Tryz.ntmps81
      go_upto_region 1 with fail
      generalize w.alloc (.cells #[.int .i64 p.row, .int .i64 p.col, .bool p.down, .string p.word] 30) = w1 at *
      go_wp2_with fail
      refine (l11Ok_any b g o _ HG.out hf).mono ?_
      rintro e w2 ⟨rfl, hdq⟩
      have hd := hdq.bels
      clear hdq
      replace hb := hb.trans (hd.mono hb.size)
      replace V0 := Lib.hid (V0.out.kept hd)
      replace HG := Lib.hid (HG.out.kept hd)
      clear hd
      rw [h1]
      clear h1
      have c3 := V0.out.cell (i := 3) rfl
      go_wp2_with fail
      refine (l12Word_any p.word _ hpw).mono ?_
      rintro e w3 ⟨rfl, rfl⟩
      rw [h2]
      clear h2
      go_wp2
      go_ret
      exact ⟨ret_bool HN.out.symm, hb⟩
    | true =>
      have HN := Lib.hid (okPlay_fits h1 h2)
      have H12 := Lib.hid (main_size h2)
      obtain ⟨n, hgd⟩ := Brd.good h1
      have HGD := Lib.hid hgd
      have HGF := Lib.hid (hgd.flat p.down)
      clear hgd
      go_enter Tryz.func81, Tryz.ntmps81
      go_upto_region 1 with fail
      generalize w.alloc (.cells #[.int .i64 p.row, .int .i64 p.col, .bool p.down, .string p.word] 30) = w1 at *
      go_wp2_with fail
      refine (l11Ok_any b g o _ HG.out hf).mono ?_
      rintro e w2 ⟨rfl, hdq⟩
      have hd := hdq.bels
      clear hdq
      replace hb := hb.trans (hd.mono hb.size)
      replace V0 := Lib.hid (V0.out.kept hd)
      replace HG := Lib.hid (HG.out.kept hd)
      clear hd
      rw [h1]
      clear h1
      have c0 := V0.out.cell (i := 0) rfl
      have c1 := V0.out.cell (i := 1) rfl
      have c2 := V0.out.cell (i := 2) rfl
      have c3 := V0.out.cell (i := 3) rfl
      go_wp2_with fail
      refine (l12Word_any p.word _ hpw).mono ?_
      rintro e w3 ⟨rfl, rfl⟩
      rw [h2]
      clear h2
      go_wp2_with fail
      refine (l12Flat_any b p n g o _ HGD.out HG.out).mono ?_
      rintro e w4 ⟨rfl, hd⟩
      unfold flatV
      clear c0 c1 c2 c3
      replace hb := hb.trans (hd.mono hb.size)
      replace V0 := Lib.hid (V0.out.kept hd)
      clear hd
      generalize b.flat p.down = f at *
      generalize p.flat.row = fr at *
      generalize p.flat.col = fc at *
      generalize p.flat.down = fd at *
      have HF : Hid (BAt ((w4.alloc (.cells #[.int .i64 f.size, .string f.premium, .string f.cells] 25)).alloc (.cells #[.int .i64 fr, .int .i64 fc, .bool fd, .string p.word] 30)) w4.heap.size 0 f) := Lib.hid ((BAt.new w4 f 25).kept ((Below.refl _ _).alloc (Nat.le_refl _) _))
      have hd : Below w4.heap.size w4 ((w4.alloc (.cells #[.int .i64 f.size, .string f.premium, .string f.cells] 25)).alloc (.cells #[.int .i64 fr, .int .i64 fc, .bool fd, .string p.word] 30)) := ((Below.refl _ _).alloc (Nat.le_refl _) _).alloc (by simp) _
      replace hb := hb.trans (hd.mono hb.size)
      clear hd
      go_wp2_with fail
      refine (l12Fits_any f n fr fc fd p.word w4.heap.size 0 _ HGF.out HF.out H12.out).mono ?_
      rintro e w5 ⟨rfl, hd⟩
      replace hb := hb.trans (hd.mono hb.size)
      clear hd
      go_wp2
      go_ret
      exact ⟨ret_bool HN.out.symm, hb⟩
/-- what WordsFormed returns -/
def WordsPost (b : Brd) (p : Ply) (w : World) (e : Ending) (w' : World) : Prop :=
  if b.okPlay p then ∃ g cap, e = .returned (.tuple #[.slice (some ⟨g, 0, none⟩) (b.words p).length cap, .int .i64 0]) ∧ w'.ownsRow w.heap.size 9 1 (.slice (some ⟨g, 0, none⟩) (b.words p).length cap) (b.words p).length ((b.words p).flatMap Tx.enc) ∧ Below w.heap.size w w'
  else e = .returned (.tuple #[.slice none 0 0, .int .i64 1]) ∧ Below w.heap.size w w'
theorem words_no {b : Brd} {p : Ply} {w : World} (h : b.okPlay p = false) (e : Ending) (w' : World) (k : e = .returned (.tuple #[.slice none 0 0, .int .i64 1]) ∧ Below w.heap.size w w') : WordsPost b p w e w' := by
  unfold WordsPost
  rw [h]
  exact k
theorem words_yes {b : Brd} {p : Ply} {w : World} (h : b.okPlay p = true) (e : Ending) (w' : World) (k : ∃ g cap, e = .returned (.tuple #[.slice (some ⟨g, 0, none⟩) (b.words p).length cap, .int .i64 0]) ∧ w'.ownsRow w.heap.size 9 1 (.slice (some ⟨g, 0, none⟩) (b.words p).length cap) (b.words p).length ((b.words p).flatMap Tx.enc) ∧ Below w.heap.size w w') : WordsPost b p w e w' := by
  unfold WordsPost
  rw [h]
  exact k
end Go.Proofs.YtjdcdhhbgijaoaaGreatDoor
