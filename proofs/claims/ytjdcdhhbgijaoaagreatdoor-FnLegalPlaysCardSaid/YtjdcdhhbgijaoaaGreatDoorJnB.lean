/- Contracts: squares with letters; the visit from square to square. For valid boards. -/
import Derived.Test.YtjdcdhhbgijaoaaGreatDoorJnA
import Derived.Test.YtjdcdhhbgijaoaaGreatDoorBrI
import Derived.Test.YtjdcdhhbgijaoaaGreatDoorVar
import Derived.Deep.CutBlock
import Derived.Deep.DeepCutAuto
namespace Go.Proofs.YtjdcdhhbgijaoaaGreatDoor
open Go.ChangeShapes Go.WideShapes Go.ChangeAt Go.RowKit Go.Sort

/-- the visit's variables: the board, what is seen, how many there are, the visit itself -/
structure JnAt (w : World) (B1 B3 B4 B5 : Nat) (b : Brd) (S : List (Int × Int)) : Prop where
  box : VarAt w B1 25 [.int .i64 b.size, .string b.premium, .string b.cells]
  seen : VarAt w B3 164 (seenC S)
  cnt : VarAt w B4 3 [.int .i64 S.length]
  fn : VarAt w B5 165 [.func (.func 152) #[] #[.pointer (some ⟨B1, 0, none⟩), .pointer (some ⟨B3, 0, none⟩), .pointer (some ⟨B4, 0, none⟩), .pointer (some ⟨B5, 0, none⟩)]]
theorem JnAt.kept {w w' : World} {B1 B3 B4 B5 : Nat} {b : Brd} {S : List (Int × Int)} (h : JnAt w B1 B3 B4 B5 b S) (hb : Below w.heap.size w w') : JnAt w' B1 B3 B4 B5 b S :=
  ⟨h.box.kept hb, h.seen.kept hb, h.cnt.kept hb, h.fn.kept hb⟩
def VisitOk (b : Brd) (n base B1 B3 B4 B5 m : Nat) : Prop := ∀ (r c : Int) (S : List (Int × Int)) (w : World), (b.fulls n).length ≤ S.length + m → S.Nodup → (∀ s ∈ S, fullC (b.cell s.1 s.2) = true) → JnAt w B1 B3 B4 B5 b S →
    Calls Tryz.prog 152 #[.int .i64 r, .int .i64 c, .pointer (some ⟨B1, 0, none⟩), .pointer (some ⟨B3, 0, none⟩), .pointer (some ⟨B4, 0, none⟩), .pointer (some ⟨B5, 0, none⟩)] w fun e w' => e = .returned (.tuple #[]) ∧ ∃ S', Vis b.cell (r, c) S S' ∧ JnAt w' B1 B3 B4 B5 b S' ∧ Below base w w'
set_option maxRecDepth 100000 in
set_option maxHeartbeats 4000000 in
theorem visit_step (b : Brd) (n : Nat) (hb0 : b.Good n) (base B1 B3 B4 B5 m : Nat) (h1 : base ≤ B1) (h3 : B1 < B3) (h4 : B3 < B4) (h5 : B4 < B5) (ih : ∀ k, m = k + 1 → VisitOk b n base B1 B3 B4 B5 k) : VisitOk b n base B1 B3 B4 B5 m := by
  intro r c S w hm hn hfl hj
  have HL := Lib.hid (fun W => letter_any b n r c W hb0)
  have J := Lib.hid hj
  have hbw : base ≤ w.heap.size := by have := hj.box.lt; omega
  have hb : Below base w w := Below.refl _ _
  have HFL := Lib.hid hfl
  clear hj hfl
  have c0 := J.out.box.cell (i := 0) rfl
  have c1 := J.out.box.cell (i := 1) rfl
  have c2 := J.out.box.cell (i := 2) rfl
  go_enter Tryz.func152, Tryz.ntmps152
  go_wp2_with fail
  refine (HL.out _).mono ?_
  rintro e w2 ⟨rfl, hd⟩
  replace J := Lib.hid (J.out.kept hd)
  replace hb := hb.trans (hd.mono hbw)
  clear hd c0 c1 c2 HL
  cases hf : fullC (b.cell r c) with
  | false =>
    have HV := Lib.hid (Vis.none (v := (r, c)) hn HFL.out (.inl hf))
    clear hf
    go_wp2
    try simp only [Exit.inBlock, Exit.then]
    first | (refine bodyPost_ret (results_none rfl _ _ _) rfl ?_) | (refine bodyPost_end (results_none rfl _ _ _) rfl ?_)
    exact ⟨rfl, S, HV.out, J.out, hb⟩
  | true =>
    have hsq := full_sq hb0 (v := (r, c)) hf
    obtain ⟨⟨r0, r1⟩, q0, q1⟩ := hsq
    simp only at r0 r1 q0 q1
    obtain ⟨x, rfl⟩ : ∃ x : Nat, r = x := ⟨r.toNat, by omega⟩
    obtain ⟨y, rfl⟩ : ∃ y : Nat, c = y := ⟨c.toNat, by omega⟩
    have hq : sqI ((x : Int), (y : Int)) = x * 15 + y := by unfold sqI; omega
    have hget := seenC_get (S := S) (fun s hs => full_sq hb0 (HFL.out s hs)) (v := ((x : Int), (y : Int))) ⟨⟨r0, r1⟩, q0, q1⟩
    rw [hq] at hget
    have s0 := J.out.seen.cell hget
    have hx15 : x < 15 := by omega
    have hy15 : y < 15 := by omega
    clear hget r0 r1 q0 q1
    by_cases hin : ((x : Int), (y : Int)) ∈ S
    · have HV := Lib.hid (Vis.none (v := ((x : Int), (y : Int))) hn HFL.out (.inr hin))
      rw [decide_eq_true hin] at s0
      clear hin
      go_wp2
      try simp only [Exit.inBlock, Exit.then]
      first | (refine bodyPost_ret (results_none rfl _ _ _) rfl ?_) | (refine bodyPost_end (results_none rfl _ _ _) rfl ?_)
      exact ⟨rfl, S, HV.out, J.out, hb⟩
    · rw [decide_eq_false hin] at s0
      have hnd1 : (((x : Int), (y : Int)) :: S).Nodup := List.nodup_cons.2 ⟨hin, hn⟩
      have hfull1 : ∀ s ∈ ((x : Int), (y : Int)) :: S, fullC (b.cell s.1 s.2) = true := fun s k => (List.mem_cons.1 k).elim (fun e => by rw [e]; exact hf) (HFL.out s)
      have hlt := nodup_le hnd1 (fun s k => hb0.fulls_mem.2 (hfull1 s k))
      rw [List.length_cons] at hlt
      have hmost : (b.fulls n).length ≤ 225 := by
        unfold Brd.fulls
        rw [List.length_map]
        refine Nat.le_trans (List.length_filter_le _ _) ?_
        rw [List.length_range]
        have h15 := hb0.hi
        exact Nat.le_trans (Nat.mul_le_mul h15 h15) (by decide)
      obtain ⟨k, rfl⟩ : ∃ k, m = k + 1 := ⟨m - 1, by omega⟩
      have HI := Lib.hid (ih k rfl)
      have HND := Lib.hid hnd1
      have HF1 := Lib.hid hfull1
      have HFV := Lib.hid hf
      clear hnd1 hfull1 hf ih hin hn hb0
      obtain ⟨o3, k3⟩ := J.out.seen.set (x * 15 + y) (.bool true)
      have e3 : (seenC S).set (x * 15 + y) (.bool true) = seenC (((x : Int), (y : Int)) :: S) := by rw [← hq]; exact seenC_set S _
      rw [e3] at o3
      have q4 := J.out.cnt.grown k3 (by simp; omega)
      obtain ⟨o4, k4⟩ := q4.set 0 (.int .i64 ((S.length : Int) + 1))
      have f3 := J.out.seen.free (x * 15 + y)
      have n0 := q4.cell (i := 0) rfl
      have m0 := q4.free 0
      have hbs := Nat.le_trans hbw hb.size
      have hb4 := (hb.grown k3 hbs (fun q h => by cases h; omega)).grown k4 (Nat.le_trans hbs k3.size) (fun q h => by cases h; omega)
      have J0 := Lib.hid (JnAt.mk ((J.out.box.grown k3 (by simp; omega)).grown k4 (by simp; omega)) (o3.grown k4 (by simp; omega)) (o4.as (cs' := [.int .i64 ((((x : Int), (y : Int)) :: S).length)]) (by simp)) ((J.out.fn.grown k3 (by simp; omega)).grown k4 (by simp; omega)))
      have wr1 : IntKind.i64.wrap ((S.length : Int) + 1) = (S.length : Int) + 1 := IntWalk.i64_in _ (by omega)
      have wr2 : IntKind.i64.wrap ((x : Int) - 1) = (x : Int) - 1 := IntWalk.i64_in _ (by omega)
      have wr3 : IntKind.i64.wrap ((x : Int) + 1) = (x : Int) + 1 := IntWalk.i64_in _ (by omega)
      have wr4 : IntKind.i64.wrap ((y : Int) - 1) = (y : Int) - 1 := IntWalk.i64_in _ (by omega)
      have wr5 : IntKind.i64.wrap ((y : Int) + 1) = (y : Int) + 1 := IntWalk.i64_in _ (by omega)
      clear o3 o4 k3 k4 q4 e3 hq hb J HFL hbs
      have hb := hb4
      clear hb4
      go_upto_region 3 with fail
      generalize (w2.setCell ⟨B3, x * 15 + y, none⟩ (.bool true)).setCell ⟨B4, 0, none⟩ (.int .i64 ((S.length : Int) + 1)) = w3 at *
      clear s0 f3 n0 m0 wr1
      have f0 := J0.out.fn.cell (i := 0) rfl
      go_wp2_with fail
      refine (HI.out ((x : Int) - 1) ((y : Int)) _ _ (by simp only [List.length_cons] at *; omega) HND.out HF1.out J0.out).mono ?_
      rintro e w4 ⟨rfl, S1, hV, hJ, hd⟩
      have V1 := Lib.hid hV
      have J1 := Lib.hid hJ
      replace hb := hb.trans hd
      clear hV hJ hd f0
      have l1 := V1.out.len
      have N1 := Lib.hid V1.out.nodup
      have G1 := Lib.hid V1.out.full
      have f0 := J1.out.fn.cell (i := 0) rfl
      go_wp2_with fail
      refine (HI.out ((x : Int) + 1) ((y : Int)) S1 _ (by simp only [List.length_cons] at *; omega) N1.out G1.out J1.out).mono ?_
      rintro e w5 ⟨rfl, S2, hV, hJ, hd⟩
      have V2 := Lib.hid hV
      have J2 := Lib.hid hJ
      replace hb := hb.trans hd
      clear hV hJ hd f0
      have l2 := V2.out.len
      have N2 := Lib.hid V2.out.nodup
      have G2 := Lib.hid V2.out.full
      have f0 := J2.out.fn.cell (i := 0) rfl
      go_wp2_with fail
      refine (HI.out ((x : Int)) ((y : Int) - 1) S2 _ (by simp only [List.length_cons] at *; omega) N2.out G2.out J2.out).mono ?_
      rintro e w6 ⟨rfl, S3, hV, hJ, hd⟩
      have V3 := Lib.hid hV
      have J3 := Lib.hid hJ
      replace hb := hb.trans hd
      clear hV hJ hd f0
      have l3 := V3.out.len
      have N3 := Lib.hid V3.out.nodup
      have G3 := Lib.hid V3.out.full
      have f0 := J3.out.fn.cell (i := 0) rfl
      go_wp2_with fail
      refine (HI.out ((x : Int)) ((y : Int) + 1) S3 _ (by simp only [List.length_cons] at *; omega) N3.out G3.out J3.out).mono ?_
      rintro e w7 ⟨rfl, S4, hV, hJ, hd⟩
      have V4 := Lib.hid hV
      have J4 := Lib.hid hJ
      replace hb := hb.trans hd
      clear hV hJ hd f0
      have HV := Lib.hid (Vis.four (v := ((x : Int), (y : Int))) HFV.out V1.out V2.out V3.out V4.out)
      clear V1 V2 V3 V4 N1 N2 N3 G1 G2 G3 HND HF1 HI J0 J1 J2 J3 HFV
      go_wp2
      try simp only [Exit.inBlock, Exit.then]
      first | (refine bodyPost_ret (results_none rfl _ _ _) rfl ?_) | (refine bodyPost_end (results_none rfl _ _ _) rfl ?_)
      exact ⟨rfl, S4, HV.out, J4.out, hb⟩
theorem visit_any (b : Brd) (n : Nat) (hb0 : b.Good n) (base B1 B3 B4 B5 : Nat) (h1 : base ≤ B1) (h3 : B1 < B3) (h4 : B3 < B4) (h5 : B4 < B5) : ∀ m, VisitOk b n base B1 B3 B4 B5 m
  | 0 => visit_step b n hb0 base B1 B3 B4 B5 0 h1 h3 h4 h5 (fun k h => by cases h)
  | m + 1 => visit_step b n hb0 base B1 B3 B4 B5 (m + 1) h1 h3 h4 h5 (fun k h => by cases h; exact visit_any b n hb0 base B1 B3 B4 B5 h1 h3 h4 h5 m)
end Go.Proofs.YtjdcdhhbgijaoaaGreatDoor
