/- Contract: the reference's draw of a result, with small names and numbers. Printed by bin/gen_drt.py -/
import Derived.Test.YtlbnjdgfggiifaaGreatDoorDrD
import Derived.Test.YtlbnjdgfggiifaaGreatDoorDrBt
namespace Go.Proofs.YtlbnjdgfggiifaaGreatDoor
open Go.ChangeShapes Go.WideShapes Go.ChangeAt Go.RowKit Go.Sort

def Res.tiny (r : Res) : Prop := r.a.size ≤ 64 ∧ r.b.size ≤ 64 ∧ (-9223372036854775808 ≤ r.sa ∧ r.sa ≤ 9223372036854775807) ∧ -9223372036854775808 ≤ r.sb ∧ r.sb ≤ 9223372036854775807
theorem zero_tiny : (-9223372036854775808 : Int) ≤ 0 ∧ (0 : Int) ≤ 9223372036854775807 := by omega
theorem emp_tiny : (⟨#[]⟩ : ByteArray).size ≤ 64 := by decide
theorem qq_tiny {x : ByteArray} (h : x ∈ ([⟨#[113, 113]⟩, ⟨#[]⟩, ⟨#[85, 112]⟩] : List ByteArray)) : x.size ≤ 64 := by
  simp only [List.mem_cons, List.not_mem_nil, or_false] at h
  rcases h with rfl | rfl | rfl <;> decide
/-- a result that was drawn -/
def ResDrawnT (w : World) (N b k : Nat) (e : Ending) (w' : World) : Prop :=
  ∃ r : Res, e = .returned (.agg #[.string r.a, .string r.b, .int .i64 r.sa, .int .i64 r.sb]) ∧ r.tiny ∧ SrcAt w' N b k ∧ w.grownBy w' (some b)
set_option maxRecDepth 100000 in
set_option maxHeartbeats 8000000 in
theorem l26DrawResultT_any (ms : List Mem) (a : Option Addr) (cap cb : Nat) (N b k : Nat) (w : World) (hs : SrcAt w N b k) (hk : k < 536870912) (hN : N ≤ w.heap.size) (hc : w.cell? ⟨cb, 0, none⟩ = some (.slice a ms.length cap)) (hcb : cb ≠ b ∧ cb < w.heap.size)
    (hm : SliceAt w 2 Mem.enc a ms) (ha : ∀ x, a = some x → x.block ≠ b ∧ x.block < w.heap.size) (hf : MemsTiny ms) (hl : ms.length ≤ 1048576) :
    Calls Tryz.prog 40 #[.pointer (some ⟨b, 0, none⟩), .pointer (some ⟨cb, 0, none⟩)] w (ResDrawnT w N b (k + 20)) := by
  have hbN := hs.lt
  have hb : Below w.heap.size w (w.alloc (.cells #[.string ⟨#[]⟩, .string ⟨#[]⟩, .int .i64 0, .int .i64 0] 33)) := (Below.refl _ _).alloc (Nat.le_refl _) _
  have HS := Lib.hid (hs.kept hb)
  have G := Lib.hid (grown_of_below (row := some b) hb)
  have V0 := Lib.hid (VarAt.new w 33 [.string ⟨#[]⟩, .string ⟨#[]⟩, .int .i64 0, .int .i64 0])
  have HM := Lib.hid (hm.kept hb)
  replace hc := cell_kept hc hb
  have HF := Lib.hid hf
  clear hs hm hf hb
  go_enter Tryz.func40, Tryz.ntmps40
  go_wp2_with fail
  refine (pick_any 200 N b _ _ HS.out (by omega)).mono ?_
  rintro e w3 ⟨x, ⟨x0, x1, _, x3⟩, rfl, s3, g3⟩
  have hz3 : w.heap.size + 1 ≤ w3.heap.size := by have := g3.size; simp at this; omega
  replace HS := Lib.hid s3
  replace G := Lib.hid (grownBy_trans G.out g3)
  replace V0 := Lib.hid (V0.out.grown g3 (by simp; omega))
  replace HM := Lib.hid (HM.out.grown g3 (fun x hx => by have := ha x hx; simp; omega))
  replace hc := (g3).cell hc (by simp; omega)
  have x9 : x ≤ 200 := by have := x1 (by omega); omega
  clear s3 g3 x1
  go_wp2_with fail
  refine (pick_any 200 N b _ _ HS.out (by omega)).mono ?_
  rintro e w4 ⟨y, ⟨y0, y1, _, y3⟩, rfl, s3, g3⟩
  have hz4 : w.heap.size + 1 ≤ w4.heap.size := by have := g3.size; omega
  replace HS := Lib.hid s3
  replace G := Lib.hid (grownBy_trans G.out g3)
  replace V0 := Lib.hid (V0.out.grown g3 (by simp; omega))
  replace HM := Lib.hid (HM.out.grown g3 (fun x hx => by have := ha x hx; simp; omega))
  replace hc := (g3).cell hc (by simp; omega)
  have y9 : y ≤ 200 := by have := y1 (by omega); omega
  clear s3 g3 y1
  obtain ⟨r, hr⟩ : ∃ r : Res, r = ⟨⟨#[97, 120]⟩, ⟨#[98, 120]⟩, 300 + x, 300 + y⟩ := ⟨_, rfl⟩
  have hra : r.a = ⟨#[97, 120]⟩ := by rw [hr]
  have hx : Below w4.heap.size w4 (w4.alloc (.cells #[.string ⟨#[97, 120]⟩, .string ⟨#[98, 120]⟩, .int .i64 (300 + x), .int .i64 (300 + y)] 33)) := (Below.refl _ _).alloc (Nat.le_refl _) _
  have V1 : Hid (VarAt (w4.alloc (.cells #[.string ⟨#[97, 120]⟩, .string ⟨#[98, 120]⟩, .int .i64 (300 + x), .int .i64 (300 + y)] 33)) w4.heap.size 33 (resCells r)) := by
    rw [hr]
    exact Lib.hid (VarAt.new w4 33 [.string ⟨#[97, 120]⟩, .string ⟨#[98, 120]⟩, .int .i64 (300 + x), .int .i64 (300 + y)])
  have HR : Hid r.tiny := by rw [hr]; exact Lib.hid ⟨by show (⟨#[97, 120]⟩ : ByteArray).size ≤ _; decide, by show (⟨#[98, 120]⟩ : ByteArray).size ≤ _; decide, by show -9223372036854775808 ≤ 300 + x ∧ 300 + x ≤ 9223372036854775807; omega, by show -9223372036854775808 ≤ 300 + y ∧ 300 + y ≤ 9223372036854775807; omega⟩
  replace HS := Lib.hid (HS.out.kept hx)
  replace G := Lib.hid (grown_below G.out hx)
  replace V0 := Lib.hid (V0.out.kept hx)
  replace HM := Lib.hid (HM.out.kept hx)
  replace hc := cell_kept hc hx
  clear hr hra hx x9 y9
  generalize hB : w4.heap.size = B1 at *
  obtain ⟨w5, hw5⟩ : ∃ w5, (w4.alloc (.cells #[.string ⟨#[97, 120]⟩, .string ⟨#[98, 120]⟩, .int .i64 (300 + x), .int .i64 (300 + y)] 33)) = w5 := ⟨_, rfl⟩
  rw [hw5] at V1 HS G V0 HM hc
  by_cases h1 : 1 < ms.length
  · go_wp2_with fail
    clear hw5 hB
    refine (pick_any ms.length N b _ _ HS.out (by omega)).mono ?_
    rintro e w6 ⟨u, ⟨u0, u1, _, u3⟩, rfl, s3, g3⟩
    obtain ⟨xi, rfl⟩ : ∃ xi : Nat, u = xi := ⟨u.toNat, (Int.toNat_of_nonneg u0).symm⟩
    have hxi : xi < ms.length := by have := u1 (by omega); omega
    replace HS := Lib.hid s3
    replace G := Lib.hid (grownBy_trans G.out g3)
    replace V0 := Lib.hid (V0.out.grown g3 (by simp; omega))
    replace HM := Lib.hid (HM.out.grown g3 (fun x hx => by have := ha x hx; simp; omega))
    replace hc := (g3).cell hc (by simp; omega)
    replace V1 := Lib.hid (V1.out.grown g3 (by simp; omega))
    clear s3 g3 u1 u0
    go_wp2_with fail
    refine (pick_any (ms.length - 1) N b _ _ HS.out (by omega)).mono ?_
    rintro e w7 ⟨q, ⟨q0, q1, _, q3⟩, rfl, s3, g3⟩
    replace HS := Lib.hid s3
    replace G := Lib.hid (grownBy_trans G.out g3)
    replace V0 := Lib.hid (V0.out.grown g3 (by simp; omega))
    replace HM := Lib.hid (HM.out.grown g3 (fun x hx => by have := ha x hx; simp; omega))
    replace hc := (g3).cell hc (by simp; omega)
    replace V1 := Lib.hid (V1.out.grown g3 (by simp; omega))
    clear s3 g3 q1
    obtain ⟨yi, hyi⟩ : ∃ yi : Nat, ((xi : Int) + 1 + q) % (ms.length : Int) = yi := ⟨Int.toNat _, (Int.toNat_of_nonneg (Int.emod_nonneg _ (by omega))).symm⟩
    have hyl : yi < ms.length := by have := Int.emod_lt_of_pos ((xi : Int) + 1 + q) (show (0 : Int) < ms.length by omega); omega
    obtain ⟨ab, ao, rfl, hcs⟩ := HM.out.open hxi
    have qx := hcs.at0 hxi rfl
    have qy := hcs.at0 hyl rfl
    have hab := ha _ rfl
    have r0 := V1.out.cell (i := 0) rfl
    have r1' := V1.out.cell (i := 1) rfl
    have s0 := V1.out.free 0
    have s1 := V1.out.free 1
    have n1 : ab ≠ B1 := by simp at hab; omega
    have n2 : cb ≠ B1 := by omega
    clear hcs hab
    have F1 := Lib.hid (HF.out.at hxi)
    have F2 := Lib.hid (HF.out.at hyl)
    go_upto_region 8 with fail
    obtain ⟨o8, g8⟩ := V1.out.set 0 (.string ms[xi].name)
    obtain ⟨o9, g9⟩ := o8.set 1 (.string ms[yi].name)
    have g10 := grownBy_trans g8 g9
    replace HS := Lib.hid (HS.out.grown g10 (fun g e => by simp at e; omega))
    replace V0 := Lib.hid (V0.out.grown g10 (by simp; omega))
    replace G := Lib.hid (grown_over G.out g10 (by omega))
    obtain ⟨r1, hr1⟩ : ∃ r1 : Res, r1 = ⟨ms[xi].name, ms[yi].name, r.sa, r.sb⟩ := ⟨_, rfl⟩
    replace V1 := Lib.hid (o9.as (cs' := resCells r1) (by rw [hr1]; rfl))
    replace HR : Hid r1.tiny := by rw [hr1]; exact Lib.hid ⟨F1.out, F2.out, HR.out.2.2⟩
    clear o8 g8 o9 g9 g10 hr1 F1 F2 r0 r1' s0 s1 n1 n2 qx qy hyi hc HM
    generalize (w7.setCell ⟨B1, 0, none⟩ (.string ms[xi].name)).setCell ⟨B1, 1, none⟩ (.string ms[yi].name) = wq at *
    go_wp2_with fail
    refine (pick_any 30 N b _ _ HS.out (by omega)).mono ?_
    rintro e w8 ⟨z, ⟨z0, z1, _, z3⟩, rfl, s3, g3⟩
    replace HS := Lib.hid s3
    replace G := Lib.hid (grownBy_trans G.out g3)
    replace V0 := Lib.hid (V0.out.grown g3 (by simp; omega))
    replace V1 := Lib.hid (V1.out.grown g3 (by simp; omega))
    clear s3 g3 z1
    by_cases t0 : z = 0
    · subst t0
      have c0 := V1.out.cell (i := 0) (v := .string r1.a) rfl
      have c1 := V1.out.cell (i := 1) rfl
      have f1 := V1.out.free 1
      go_upto_region 19 with fail
      clear c0 c1 f1
      obtain ⟨o8, g8⟩ := V1.out.set 1 (.string r1.a)
      replace HS := Lib.hid (HS.out.grown g8 (fun g e => by simp at e; omega))
      replace V0 := Lib.hid (V0.out.grown g8 (by simp; omega))
      replace G := Lib.hid (grown_over G.out g8 (by omega))
      replace V1 := Lib.hid (o8.as (cs' := resCells ⟨r1.a, r1.a, r1.sa, r1.sb⟩) rfl)
      replace HR : Hid (((⟨r1.a, r1.a, r1.sa, r1.sb⟩) : Res).tiny) := Lib.hid ⟨HR.out.1, HR.out.1, HR.out.2.2⟩
      clear o8 g8
      obtain ⟨r, hrr⟩ : ∃ r : Res, r = ⟨r1.a, r1.a, r1.sa, r1.sb⟩ := ⟨_, rfl⟩
      rw [← hrr] at V1 HR
      clear hrr
      have hb1 := V1.out.lt
      have c0 := V1.out.cell (i := 0) (v := .string r.a) rfl
      have c1 := V1.out.cell (i := 1) (v := .string r.b) rfl
      have c2 := V1.out.cell (i := 2) (v := .int .i64 r.sa) rfl
      have c3 := V1.out.cell (i := 3) (v := .int .i64 r.sb) rfl
      have d0 := V0.out.cell (i := 0) rfl
      have d1 := V0.out.cell (i := 1) rfl
      have d2 := V0.out.cell (i := 2) rfl
      have d3 := V0.out.cell (i := 3) rfl
      have f0 := V0.out.free 0
      have f1 := V0.out.free 1
      have f2 := V0.out.free 2
      have f3 := V0.out.free 3
      obtain ⟨o0, g0⟩ := V0.out.set 0 (.string r.a)
      obtain ⟨o1, g1⟩ := o0.set 1 (.string r.b)
      obtain ⟨o2, g2⟩ := o1.set 2 (.int .i64 r.sa)
      obtain ⟨o3, g3⟩ := o2.set 3 (.int .i64 r.sb)
      have GG := grownBy_trans (grownBy_trans (grownBy_trans g0 g1) g2) g3
      replace HS := Lib.hid (HS.out.grown GG (fun g e => by simp at e; omega))
      replace G := Lib.hid (grown_over G.out GG (by omega))
      have e0 := o3.cell (i := 0) (v := .string r.a) rfl
      have e1 := o3.cell (i := 1) (v := .string r.b) rfl
      have e2 := o3.cell (i := 2) (v := .int .i64 r.sa) rfl
      have e3 := o3.cell (i := 3) (v := .int .i64 r.sb) rfl
      clear o0 o1 o2 o3 g0 g1 g2 g3 GG
      go_wp2
      refine bodyPost_ret (v := .agg #[.string r.a, .string r.b, .int .i64 r.sa, .int .i64 r.sb]) (by simp [results, Tryz.results40, go_sem, e0, e1, e2, e3]) rfl ?_
      exact ⟨r, rfl, HR.out, HS.out.mono (Nat.le_refl _) (by omega), G.out⟩
    · by_cases t1 : z = 1
      · subst t1
        have hx : Below w8.heap.size w8 (w8.alloc (.cells #[.string ⟨#[113, 113]⟩, .string ⟨#[]⟩, .string ⟨#[85, 112]⟩] 9)) := (Below.refl _ _).alloc (Nat.le_refl _) _
        have hcn := cells_new (enc := Str.enc) (fun _ => rfl) w8 [⟨#[113, 113]⟩, ⟨#[]⟩, ⟨#[85, 112]⟩] 9
        have hbw : b < w8.heap.size := HS.out.size
        replace HS := Lib.hid (HS.out.kept hx)
        replace G := Lib.hid (grown_below G.out hx)
        replace V0 := Lib.hid (V0.out.kept hx)
        replace V1 := Lib.hid (V1.out.kept hx)
        have HC := Lib.hid hcn
        clear hcn hx
        go_wp2_with fail
        refine (text_any [⟨#[113, 113]⟩, ⟨#[]⟩, ⟨#[85, 112]⟩] w8.heap.size 3 N b _ _ HS.out (by omega) HC.out (by decide) (by decide) (by omega)).mono ?_
        rintro e w9 ⟨q, hq, rfl, s3, g3⟩
        replace HS := Lib.hid s3
        replace G := Lib.hid (grownBy_trans G.out g3)
        replace V0 := Lib.hid (V0.out.grown g3 (by simp; omega))
        replace V1 := Lib.hid (V1.out.grown g3 (by simp; omega))
        have hqf := qq_tiny hq
        have HQ := Lib.hid hqf
        clear s3 g3 HC hq hqf
        have c1 := V1.out.cell (i := 1) rfl
        have f1 := V1.out.free 1
        go_upto_region 19 with fail
        clear c1 f1
        obtain ⟨o8, g8⟩ := V1.out.set 1 (.string q)
        replace HS := Lib.hid (HS.out.grown g8 (fun g e => by simp at e; omega))
        replace V0 := Lib.hid (V0.out.grown g8 (by simp; omega))
        replace G := Lib.hid (grown_over G.out g8 (by omega))
        replace V1 := Lib.hid (o8.as (cs' := resCells ⟨r1.a, q, r1.sa, r1.sb⟩) rfl)
        replace HR : Hid (((⟨r1.a, q, r1.sa, r1.sb⟩) : Res).tiny) := Lib.hid ⟨HR.out.1, HQ.out, HR.out.2.2⟩
        clear o8 g8
        obtain ⟨r, hrr⟩ : ∃ r : Res, r = ⟨r1.a, q, r1.sa, r1.sb⟩ := ⟨_, rfl⟩
        rw [← hrr] at V1 HR
        clear hrr
        have hb1 := V1.out.lt
        have c0 := V1.out.cell (i := 0) (v := .string r.a) rfl
        have c1 := V1.out.cell (i := 1) (v := .string r.b) rfl
        have c2 := V1.out.cell (i := 2) (v := .int .i64 r.sa) rfl
        have c3 := V1.out.cell (i := 3) (v := .int .i64 r.sb) rfl
        have d0 := V0.out.cell (i := 0) rfl
        have d1 := V0.out.cell (i := 1) rfl
        have d2 := V0.out.cell (i := 2) rfl
        have d3 := V0.out.cell (i := 3) rfl
        have f0 := V0.out.free 0
        have f1 := V0.out.free 1
        have f2 := V0.out.free 2
        have f3 := V0.out.free 3
        obtain ⟨o0, g0⟩ := V0.out.set 0 (.string r.a)
        obtain ⟨o1, g1⟩ := o0.set 1 (.string r.b)
        obtain ⟨o2, g2⟩ := o1.set 2 (.int .i64 r.sa)
        obtain ⟨o3, g3⟩ := o2.set 3 (.int .i64 r.sb)
        have GG := grownBy_trans (grownBy_trans (grownBy_trans g0 g1) g2) g3
        replace HS := Lib.hid (HS.out.grown GG (fun g e => by simp at e; omega))
        replace G := Lib.hid (grown_over G.out GG (by omega))
        have e0 := o3.cell (i := 0) (v := .string r.a) rfl
        have e1 := o3.cell (i := 1) (v := .string r.b) rfl
        have e2 := o3.cell (i := 2) (v := .int .i64 r.sa) rfl
        have e3 := o3.cell (i := 3) (v := .int .i64 r.sb) rfl
        clear o0 o1 o2 o3 g0 g1 g2 g3 GG
        go_wp2
        refine bodyPost_ret (v := .agg #[.string r.a, .string r.b, .int .i64 r.sa, .int .i64 r.sb]) (by simp [results, Tryz.results40, go_sem, e0, e1, e2, e3]) rfl ?_
        exact ⟨r, rfl, HR.out, HS.out.mono (Nat.le_refl _) (by omega), G.out⟩
      · by_cases t2 : z = 2
        · subst t2
          have hx : Below w8.heap.size w8 (w8.alloc (.cells #[.int .i64 (-2001), .int .i64 (-2000), .int .i64 2000, .int .i64 2001] 2)) := (Below.refl _ _).alloc (Nat.le_refl _) _
          have hcn := cells_new (enc := I64.enc) (fun _ => rfl) w8 [-2001, -2000, 2000, 2001] 2
          have hbw : b < w8.heap.size := HS.out.size
          replace HS := Lib.hid (HS.out.kept hx)
          replace G := Lib.hid (grown_below G.out hx)
          replace V0 := Lib.hid (V0.out.kept hx)
          replace V1 := Lib.hid (V1.out.kept hx)
          have HC := Lib.hid hcn
          clear hcn hx
          go_wp2_with fail
          refine (among_any [-2001, -2000, 2000, 2001] w8.heap.size 4 N b _ _ HS.out (by omega) HC.out (by decide) (by decide) (by omega)).mono ?_
          rintro e w9 ⟨q, hmem, rfl, s3, g3⟩
          have hq2 : -9223372036854775808 ≤ q ∧ q ≤ 9223372036854775807 := by
            simp only [List.mem_cons, List.not_mem_nil, or_false] at hmem
            omega
          have HQ := Lib.hid hq2
          clear hmem hq2
          replace HS := Lib.hid s3
          replace G := Lib.hid (grownBy_trans G.out g3)
          replace V0 := Lib.hid (V0.out.grown g3 (by simp; omega))
          replace V1 := Lib.hid (V1.out.grown g3 (by simp; omega))
          clear s3 g3 HC
          have c2 := V1.out.cell (i := 2) rfl
          have f2 := V1.out.free 2
          go_upto_region 19 with fail
          clear c2 f2
          obtain ⟨o8, g8⟩ := V1.out.set 2 (.int .i64 q)
          replace HS := Lib.hid (HS.out.grown g8 (fun g e => by simp at e; omega))
          replace V0 := Lib.hid (V0.out.grown g8 (by simp; omega))
          replace G := Lib.hid (grown_over G.out g8 (by omega))
          replace V1 := Lib.hid (o8.as (cs' := resCells ⟨r1.a, r1.b, q, r1.sb⟩) rfl)
          replace HR : Hid (((⟨r1.a, r1.b, q, r1.sb⟩) : Res).tiny) := Lib.hid ⟨HR.out.1, HR.out.2.1, HQ.out, HR.out.2.2.2⟩
          clear o8 g8
          obtain ⟨r, hrr⟩ : ∃ r : Res, r = ⟨r1.a, r1.b, q, r1.sb⟩ := ⟨_, rfl⟩
          rw [← hrr] at V1 HR
          clear hrr
          have hb1 := V1.out.lt
          have c0 := V1.out.cell (i := 0) (v := .string r.a) rfl
          have c1 := V1.out.cell (i := 1) (v := .string r.b) rfl
          have c2 := V1.out.cell (i := 2) (v := .int .i64 r.sa) rfl
          have c3 := V1.out.cell (i := 3) (v := .int .i64 r.sb) rfl
          have d0 := V0.out.cell (i := 0) rfl
          have d1 := V0.out.cell (i := 1) rfl
          have d2 := V0.out.cell (i := 2) rfl
          have d3 := V0.out.cell (i := 3) rfl
          have f0 := V0.out.free 0
          have f1 := V0.out.free 1
          have f2 := V0.out.free 2
          have f3 := V0.out.free 3
          obtain ⟨o0, g0⟩ := V0.out.set 0 (.string r.a)
          obtain ⟨o1, g1⟩ := o0.set 1 (.string r.b)
          obtain ⟨o2, g2⟩ := o1.set 2 (.int .i64 r.sa)
          obtain ⟨o3, g3⟩ := o2.set 3 (.int .i64 r.sb)
          have GG := grownBy_trans (grownBy_trans (grownBy_trans g0 g1) g2) g3
          replace HS := Lib.hid (HS.out.grown GG (fun g e => by simp at e; omega))
          replace G := Lib.hid (grown_over G.out GG (by omega))
          have e0 := o3.cell (i := 0) (v := .string r.a) rfl
          have e1 := o3.cell (i := 1) (v := .string r.b) rfl
          have e2 := o3.cell (i := 2) (v := .int .i64 r.sa) rfl
          have e3 := o3.cell (i := 3) (v := .int .i64 r.sb) rfl
          clear o0 o1 o2 o3 g0 g1 g2 g3 GG
          go_wp2
          refine bodyPost_ret (v := .agg #[.string r.a, .string r.b, .int .i64 r.sa, .int .i64 r.sb]) (by simp [results, Tryz.results40, go_sem, e0, e1, e2, e3]) rfl ?_
          exact ⟨r, rfl, HR.out, HS.out.mono (Nat.le_refl _) (by omega), G.out⟩
        · by_cases t3 : z = 3
          · subst t3
            have c2 := V1.out.cell (i := 2) (v := .int .i64 r1.sa) rfl
            have c3 := V1.out.cell (i := 3) rfl
            have f3 := V1.out.free 3
            go_upto_region 19 with fail
            clear c2 c3 f3
            obtain ⟨o8, g8⟩ := V1.out.set 3 (.int .i64 r1.sa)
            replace HS := Lib.hid (HS.out.grown g8 (fun g e => by simp at e; omega))
            replace V0 := Lib.hid (V0.out.grown g8 (by simp; omega))
            replace G := Lib.hid (grown_over G.out g8 (by omega))
            replace V1 := Lib.hid (o8.as (cs' := resCells ⟨r1.a, r1.b, r1.sa, r1.sa⟩) rfl)
            replace HR : Hid (((⟨r1.a, r1.b, r1.sa, r1.sa⟩) : Res).tiny) := Lib.hid ⟨HR.out.1, HR.out.2.1, HR.out.2.2.1, HR.out.2.2.1⟩
            clear o8 g8
            obtain ⟨r, hrr⟩ : ∃ r : Res, r = ⟨r1.a, r1.b, r1.sa, r1.sa⟩ := ⟨_, rfl⟩
            rw [← hrr] at V1 HR
            clear hrr
            have hb1 := V1.out.lt
            have c0 := V1.out.cell (i := 0) (v := .string r.a) rfl
            have c1 := V1.out.cell (i := 1) (v := .string r.b) rfl
            have c2 := V1.out.cell (i := 2) (v := .int .i64 r.sa) rfl
            have c3 := V1.out.cell (i := 3) (v := .int .i64 r.sb) rfl
            have d0 := V0.out.cell (i := 0) rfl
            have d1 := V0.out.cell (i := 1) rfl
            have d2 := V0.out.cell (i := 2) rfl
            have d3 := V0.out.cell (i := 3) rfl
            have f0 := V0.out.free 0
            have f1 := V0.out.free 1
            have f2 := V0.out.free 2
            have f3 := V0.out.free 3
            obtain ⟨o0, g0⟩ := V0.out.set 0 (.string r.a)
            obtain ⟨o1, g1⟩ := o0.set 1 (.string r.b)
            obtain ⟨o2, g2⟩ := o1.set 2 (.int .i64 r.sa)
            obtain ⟨o3, g3⟩ := o2.set 3 (.int .i64 r.sb)
            have GG := grownBy_trans (grownBy_trans (grownBy_trans g0 g1) g2) g3
            replace HS := Lib.hid (HS.out.grown GG (fun g e => by simp at e; omega))
            replace G := Lib.hid (grown_over G.out GG (by omega))
            have e0 := o3.cell (i := 0) (v := .string r.a) rfl
            have e1 := o3.cell (i := 1) (v := .string r.b) rfl
            have e2 := o3.cell (i := 2) (v := .int .i64 r.sa) rfl
            have e3 := o3.cell (i := 3) (v := .int .i64 r.sb) rfl
            clear o0 o1 o2 o3 g0 g1 g2 g3 GG
            go_wp2
            refine bodyPost_ret (v := .agg #[.string r.a, .string r.b, .int .i64 r.sa, .int .i64 r.sb]) (by simp [results, Tryz.results40, go_sem, e0, e1, e2, e3]) rfl ?_
            exact ⟨r, rfl, HR.out, HS.out.mono (Nat.le_refl _) (by omega), G.out⟩
          · by_cases t4 : z = 4
            · subst t4
              have c0 := V1.out.cell (i := 0) (v := .string r1.a) rfl
              have c1 := V1.out.cell (i := 1) rfl
              have c2 := V1.out.cell (i := 2) rfl
              have c3 := V1.out.cell (i := 3) rfl
              have f0 := V1.out.free 0
              have f1 := V1.out.free 1
              have f2 := V1.out.free 2
              have f3 := V1.out.free 3
              go_upto_region 19 with fail
              clear c0 c1 c2 c3 f0 f1 f2 f3
              obtain ⟨o8, g8⟩ := V1.out.set 0 (.string r1.a)
              replace HS := Lib.hid (HS.out.grown g8 (fun g e => by simp at e; omega))
              replace V0 := Lib.hid (V0.out.grown g8 (by simp; omega))
              replace G := Lib.hid (grown_over G.out g8 (by omega))
              replace V1 := Lib.hid (o8.as (cs' := resCells ⟨r1.a, r1.b, r1.sa, r1.sb⟩) rfl)
              replace HR : Hid (((⟨r1.a, r1.b, r1.sa, r1.sb⟩) : Res).tiny) := Lib.hid HR.out
              clear o8 g8
              obtain ⟨o8, g8⟩ := V1.out.set 1 (.string ⟨#[]⟩)
              replace HS := Lib.hid (HS.out.grown g8 (fun g e => by simp at e; omega))
              replace V0 := Lib.hid (V0.out.grown g8 (by simp; omega))
              replace G := Lib.hid (grown_over G.out g8 (by omega))
              replace V1 := Lib.hid (o8.as (cs' := resCells ⟨r1.a, ⟨#[]⟩, r1.sa, r1.sb⟩) rfl)
              replace HR : Hid (((⟨r1.a, ⟨#[]⟩, r1.sa, r1.sb⟩) : Res).tiny) := Lib.hid ⟨HR.out.1, emp_tiny, HR.out.2.2⟩
              clear o8 g8
              obtain ⟨o8, g8⟩ := V1.out.set 2 (.int .i64 0)
              replace HS := Lib.hid (HS.out.grown g8 (fun g e => by simp at e; omega))
              replace V0 := Lib.hid (V0.out.grown g8 (by simp; omega))
              replace G := Lib.hid (grown_over G.out g8 (by omega))
              replace V1 := Lib.hid (o8.as (cs' := resCells ⟨r1.a, ⟨#[]⟩, 0, r1.sb⟩) rfl)
              replace HR : Hid (((⟨r1.a, ⟨#[]⟩, 0, r1.sb⟩) : Res).tiny) := Lib.hid ⟨HR.out.1, HR.out.2.1, zero_tiny, HR.out.2.2.2⟩
              clear o8 g8
              obtain ⟨o8, g8⟩ := V1.out.set 3 (.int .i64 0)
              replace HS := Lib.hid (HS.out.grown g8 (fun g e => by simp at e; omega))
              replace V0 := Lib.hid (V0.out.grown g8 (by simp; omega))
              replace G := Lib.hid (grown_over G.out g8 (by omega))
              replace V1 := Lib.hid (o8.as (cs' := resCells ⟨r1.a, ⟨#[]⟩, 0, 0⟩) rfl)
              replace HR : Hid (((⟨r1.a, ⟨#[]⟩, 0, 0⟩) : Res).tiny) := Lib.hid ⟨HR.out.1, HR.out.2.1, zero_tiny, zero_tiny⟩
              clear o8 g8
              obtain ⟨r, hrr⟩ : ∃ r : Res, r = ⟨r1.a, ⟨#[]⟩, 0, 0⟩ := ⟨_, rfl⟩
              rw [← hrr] at V1 HR
              clear hrr
              have hb1 := V1.out.lt
              have c0 := V1.out.cell (i := 0) (v := .string r.a) rfl
              have c1 := V1.out.cell (i := 1) (v := .string r.b) rfl
              have c2 := V1.out.cell (i := 2) (v := .int .i64 r.sa) rfl
              have c3 := V1.out.cell (i := 3) (v := .int .i64 r.sb) rfl
              have d0 := V0.out.cell (i := 0) rfl
              have d1 := V0.out.cell (i := 1) rfl
              have d2 := V0.out.cell (i := 2) rfl
              have d3 := V0.out.cell (i := 3) rfl
              have f0 := V0.out.free 0
              have f1 := V0.out.free 1
              have f2 := V0.out.free 2
              have f3 := V0.out.free 3
              obtain ⟨o0, g0⟩ := V0.out.set 0 (.string r.a)
              obtain ⟨o1, g1⟩ := o0.set 1 (.string r.b)
              obtain ⟨o2, g2⟩ := o1.set 2 (.int .i64 r.sa)
              obtain ⟨o3, g3⟩ := o2.set 3 (.int .i64 r.sb)
              have GG := grownBy_trans (grownBy_trans (grownBy_trans g0 g1) g2) g3
              replace HS := Lib.hid (HS.out.grown GG (fun g e => by simp at e; omega))
              replace G := Lib.hid (grown_over G.out GG (by omega))
              have e0 := o3.cell (i := 0) (v := .string r.a) rfl
              have e1 := o3.cell (i := 1) (v := .string r.b) rfl
              have e2 := o3.cell (i := 2) (v := .int .i64 r.sa) rfl
              have e3 := o3.cell (i := 3) (v := .int .i64 r.sb) rfl
              clear o0 o1 o2 o3 g0 g1 g2 g3 GG
              go_wp2
              refine bodyPost_ret (v := .agg #[.string r.a, .string r.b, .int .i64 r.sa, .int .i64 r.sb]) (by simp [results, Tryz.results40, go_sem, e0, e1, e2, e3]) rfl ?_
              exact ⟨r, rfl, HR.out, HS.out.mono (Nat.le_refl _) (by omega), G.out⟩
            · have e0 : (z == 0) = false := by simpa using t0
              have e1 : (z == 1) = false := by simpa using t1
              have e2 : (z == 2) = false := by simpa using t2
              have e3 : (z == 3) = false := by simpa using t3
              have e4 : (z == 4) = false := by simpa using t4
              go_upto_region 19 with fail
              clear e0 e1 e2 e3 e4
              obtain ⟨r, hrr⟩ : ∃ r : Res, r = r1 := ⟨_, rfl⟩
              rw [← hrr] at V1 HR
              clear hrr
              have hb1 := V1.out.lt
              have c0 := V1.out.cell (i := 0) (v := .string r.a) rfl
              have c1 := V1.out.cell (i := 1) (v := .string r.b) rfl
              have c2 := V1.out.cell (i := 2) (v := .int .i64 r.sa) rfl
              have c3 := V1.out.cell (i := 3) (v := .int .i64 r.sb) rfl
              have d0 := V0.out.cell (i := 0) rfl
              have d1 := V0.out.cell (i := 1) rfl
              have d2 := V0.out.cell (i := 2) rfl
              have d3 := V0.out.cell (i := 3) rfl
              have f0 := V0.out.free 0
              have f1 := V0.out.free 1
              have f2 := V0.out.free 2
              have f3 := V0.out.free 3
              obtain ⟨o0, g0⟩ := V0.out.set 0 (.string r.a)
              obtain ⟨o1, g1⟩ := o0.set 1 (.string r.b)
              obtain ⟨o2, g2⟩ := o1.set 2 (.int .i64 r.sa)
              obtain ⟨o3, g3⟩ := o2.set 3 (.int .i64 r.sb)
              have GG := grownBy_trans (grownBy_trans (grownBy_trans g0 g1) g2) g3
              replace HS := Lib.hid (HS.out.grown GG (fun g e => by simp at e; omega))
              replace G := Lib.hid (grown_over G.out GG (by omega))
              have e0 := o3.cell (i := 0) (v := .string r.a) rfl
              have e1 := o3.cell (i := 1) (v := .string r.b) rfl
              have e2 := o3.cell (i := 2) (v := .int .i64 r.sa) rfl
              have e3 := o3.cell (i := 3) (v := .int .i64 r.sb) rfl
              clear o0 o1 o2 o3 g0 g1 g2 g3 GG
              go_wp2
              refine bodyPost_ret (v := .agg #[.string r.a, .string r.b, .int .i64 r.sa, .int .i64 r.sb]) (by simp [results, Tryz.results40, go_sem, e0, e1, e2, e3]) rfl ?_
              exact ⟨r, rfl, HR.out, HS.out.mono (Nat.le_refl _) (by omega), G.out⟩
  · obtain ⟨r1, hr1⟩ : ∃ r1, r = r1 := ⟨_, rfl⟩
    rw [hr1] at V1 HR
    clear hr1
    go_wp2_with fail
    clear hw5 hB
    refine (pick_any 30 N b _ _ HS.out (by omega)).mono ?_
    rintro e w8 ⟨z, ⟨z0, z1, _, z3⟩, rfl, s3, g3⟩
    replace HS := Lib.hid s3
    replace G := Lib.hid (grownBy_trans G.out g3)
    replace V0 := Lib.hid (V0.out.grown g3 (by simp; omega))
    replace V1 := Lib.hid (V1.out.grown g3 (by simp; omega))
    clear s3 g3 z1
    by_cases t0 : z = 0
    · subst t0
      have c0 := V1.out.cell (i := 0) (v := .string r1.a) rfl
      have c1 := V1.out.cell (i := 1) rfl
      have f1 := V1.out.free 1
      go_upto_region 19 with fail
      clear c0 c1 f1
      obtain ⟨o8, g8⟩ := V1.out.set 1 (.string r1.a)
      replace HS := Lib.hid (HS.out.grown g8 (fun g e => by simp at e; omega))
      replace V0 := Lib.hid (V0.out.grown g8 (by simp; omega))
      replace G := Lib.hid (grown_over G.out g8 (by omega))
      replace V1 := Lib.hid (o8.as (cs' := resCells ⟨r1.a, r1.a, r1.sa, r1.sb⟩) rfl)
      replace HR : Hid (((⟨r1.a, r1.a, r1.sa, r1.sb⟩) : Res).tiny) := Lib.hid ⟨HR.out.1, HR.out.1, HR.out.2.2⟩
      clear o8 g8
      obtain ⟨r, hrr⟩ : ∃ r : Res, r = ⟨r1.a, r1.a, r1.sa, r1.sb⟩ := ⟨_, rfl⟩
      rw [← hrr] at V1 HR
      clear hrr
      have hb1 := V1.out.lt
      have c0 := V1.out.cell (i := 0) (v := .string r.a) rfl
      have c1 := V1.out.cell (i := 1) (v := .string r.b) rfl
      have c2 := V1.out.cell (i := 2) (v := .int .i64 r.sa) rfl
      have c3 := V1.out.cell (i := 3) (v := .int .i64 r.sb) rfl
      have d0 := V0.out.cell (i := 0) rfl
      have d1 := V0.out.cell (i := 1) rfl
      have d2 := V0.out.cell (i := 2) rfl
      have d3 := V0.out.cell (i := 3) rfl
      have f0 := V0.out.free 0
      have f1 := V0.out.free 1
      have f2 := V0.out.free 2
      have f3 := V0.out.free 3
      obtain ⟨o0, g0⟩ := V0.out.set 0 (.string r.a)
      obtain ⟨o1, g1⟩ := o0.set 1 (.string r.b)
      obtain ⟨o2, g2⟩ := o1.set 2 (.int .i64 r.sa)
      obtain ⟨o3, g3⟩ := o2.set 3 (.int .i64 r.sb)
      have GG := grownBy_trans (grownBy_trans (grownBy_trans g0 g1) g2) g3
      replace HS := Lib.hid (HS.out.grown GG (fun g e => by simp at e; omega))
      replace G := Lib.hid (grown_over G.out GG (by omega))
      have e0 := o3.cell (i := 0) (v := .string r.a) rfl
      have e1 := o3.cell (i := 1) (v := .string r.b) rfl
      have e2 := o3.cell (i := 2) (v := .int .i64 r.sa) rfl
      have e3 := o3.cell (i := 3) (v := .int .i64 r.sb) rfl
      clear o0 o1 o2 o3 g0 g1 g2 g3 GG
      go_wp2
      refine bodyPost_ret (v := .agg #[.string r.a, .string r.b, .int .i64 r.sa, .int .i64 r.sb]) (by simp [results, Tryz.results40, go_sem, e0, e1, e2, e3]) rfl ?_
      exact ⟨r, rfl, HR.out, HS.out.mono (Nat.le_refl _) (by omega), G.out⟩
    · by_cases t1 : z = 1
      · subst t1
        have hx : Below w8.heap.size w8 (w8.alloc (.cells #[.string ⟨#[113, 113]⟩, .string ⟨#[]⟩, .string ⟨#[85, 112]⟩] 9)) := (Below.refl _ _).alloc (Nat.le_refl _) _
        have hcn := cells_new (enc := Str.enc) (fun _ => rfl) w8 [⟨#[113, 113]⟩, ⟨#[]⟩, ⟨#[85, 112]⟩] 9
        have hbw : b < w8.heap.size := HS.out.size
        replace HS := Lib.hid (HS.out.kept hx)
        replace G := Lib.hid (grown_below G.out hx)
        replace V0 := Lib.hid (V0.out.kept hx)
        replace V1 := Lib.hid (V1.out.kept hx)
        have HC := Lib.hid hcn
        clear hcn hx
        go_wp2_with fail
        refine (text_any [⟨#[113, 113]⟩, ⟨#[]⟩, ⟨#[85, 112]⟩] w8.heap.size 3 N b _ _ HS.out (by omega) HC.out (by decide) (by decide) (by omega)).mono ?_
        rintro e w9 ⟨q, hq, rfl, s3, g3⟩
        replace HS := Lib.hid s3
        replace G := Lib.hid (grownBy_trans G.out g3)
        replace V0 := Lib.hid (V0.out.grown g3 (by simp; omega))
        replace V1 := Lib.hid (V1.out.grown g3 (by simp; omega))
        have hqf := qq_tiny hq
        have HQ := Lib.hid hqf
        clear s3 g3 HC hq hqf
        have c1 := V1.out.cell (i := 1) rfl
        have f1 := V1.out.free 1
        go_upto_region 19 with fail
        clear c1 f1
        obtain ⟨o8, g8⟩ := V1.out.set 1 (.string q)
        replace HS := Lib.hid (HS.out.grown g8 (fun g e => by simp at e; omega))
        replace V0 := Lib.hid (V0.out.grown g8 (by simp; omega))
        replace G := Lib.hid (grown_over G.out g8 (by omega))
        replace V1 := Lib.hid (o8.as (cs' := resCells ⟨r1.a, q, r1.sa, r1.sb⟩) rfl)
        replace HR : Hid (((⟨r1.a, q, r1.sa, r1.sb⟩) : Res).tiny) := Lib.hid ⟨HR.out.1, HQ.out, HR.out.2.2⟩
        clear o8 g8
        obtain ⟨r, hrr⟩ : ∃ r : Res, r = ⟨r1.a, q, r1.sa, r1.sb⟩ := ⟨_, rfl⟩
        rw [← hrr] at V1 HR
        clear hrr
        have hb1 := V1.out.lt
        have c0 := V1.out.cell (i := 0) (v := .string r.a) rfl
        have c1 := V1.out.cell (i := 1) (v := .string r.b) rfl
        have c2 := V1.out.cell (i := 2) (v := .int .i64 r.sa) rfl
        have c3 := V1.out.cell (i := 3) (v := .int .i64 r.sb) rfl
        have d0 := V0.out.cell (i := 0) rfl
        have d1 := V0.out.cell (i := 1) rfl
        have d2 := V0.out.cell (i := 2) rfl
        have d3 := V0.out.cell (i := 3) rfl
        have f0 := V0.out.free 0
        have f1 := V0.out.free 1
        have f2 := V0.out.free 2
        have f3 := V0.out.free 3
        obtain ⟨o0, g0⟩ := V0.out.set 0 (.string r.a)
        obtain ⟨o1, g1⟩ := o0.set 1 (.string r.b)
        obtain ⟨o2, g2⟩ := o1.set 2 (.int .i64 r.sa)
        obtain ⟨o3, g3⟩ := o2.set 3 (.int .i64 r.sb)
        have GG := grownBy_trans (grownBy_trans (grownBy_trans g0 g1) g2) g3
        replace HS := Lib.hid (HS.out.grown GG (fun g e => by simp at e; omega))
        replace G := Lib.hid (grown_over G.out GG (by omega))
        have e0 := o3.cell (i := 0) (v := .string r.a) rfl
        have e1 := o3.cell (i := 1) (v := .string r.b) rfl
        have e2 := o3.cell (i := 2) (v := .int .i64 r.sa) rfl
        have e3 := o3.cell (i := 3) (v := .int .i64 r.sb) rfl
        clear o0 o1 o2 o3 g0 g1 g2 g3 GG
        go_wp2
        refine bodyPost_ret (v := .agg #[.string r.a, .string r.b, .int .i64 r.sa, .int .i64 r.sb]) (by simp [results, Tryz.results40, go_sem, e0, e1, e2, e3]) rfl ?_
        exact ⟨r, rfl, HR.out, HS.out.mono (Nat.le_refl _) (by omega), G.out⟩
      · by_cases t2 : z = 2
        · subst t2
          have hx : Below w8.heap.size w8 (w8.alloc (.cells #[.int .i64 (-2001), .int .i64 (-2000), .int .i64 2000, .int .i64 2001] 2)) := (Below.refl _ _).alloc (Nat.le_refl _) _
          have hcn := cells_new (enc := I64.enc) (fun _ => rfl) w8 [-2001, -2000, 2000, 2001] 2
          have hbw : b < w8.heap.size := HS.out.size
          replace HS := Lib.hid (HS.out.kept hx)
          replace G := Lib.hid (grown_below G.out hx)
          replace V0 := Lib.hid (V0.out.kept hx)
          replace V1 := Lib.hid (V1.out.kept hx)
          have HC := Lib.hid hcn
          clear hcn hx
          go_wp2_with fail
          refine (among_any [-2001, -2000, 2000, 2001] w8.heap.size 4 N b _ _ HS.out (by omega) HC.out (by decide) (by decide) (by omega)).mono ?_
          rintro e w9 ⟨q, hmem, rfl, s3, g3⟩
          have hq2 : -9223372036854775808 ≤ q ∧ q ≤ 9223372036854775807 := by
            simp only [List.mem_cons, List.not_mem_nil, or_false] at hmem
            omega
          have HQ := Lib.hid hq2
          clear hmem hq2
          replace HS := Lib.hid s3
          replace G := Lib.hid (grownBy_trans G.out g3)
          replace V0 := Lib.hid (V0.out.grown g3 (by simp; omega))
          replace V1 := Lib.hid (V1.out.grown g3 (by simp; omega))
          clear s3 g3 HC
          have c2 := V1.out.cell (i := 2) rfl
          have f2 := V1.out.free 2
          go_upto_region 19 with fail
          clear c2 f2
          obtain ⟨o8, g8⟩ := V1.out.set 2 (.int .i64 q)
          replace HS := Lib.hid (HS.out.grown g8 (fun g e => by simp at e; omega))
          replace V0 := Lib.hid (V0.out.grown g8 (by simp; omega))
          replace G := Lib.hid (grown_over G.out g8 (by omega))
          replace V1 := Lib.hid (o8.as (cs' := resCells ⟨r1.a, r1.b, q, r1.sb⟩) rfl)
          replace HR : Hid (((⟨r1.a, r1.b, q, r1.sb⟩) : Res).tiny) := Lib.hid ⟨HR.out.1, HR.out.2.1, HQ.out, HR.out.2.2.2⟩
          clear o8 g8
          obtain ⟨r, hrr⟩ : ∃ r : Res, r = ⟨r1.a, r1.b, q, r1.sb⟩ := ⟨_, rfl⟩
          rw [← hrr] at V1 HR
          clear hrr
          have hb1 := V1.out.lt
          have c0 := V1.out.cell (i := 0) (v := .string r.a) rfl
          have c1 := V1.out.cell (i := 1) (v := .string r.b) rfl
          have c2 := V1.out.cell (i := 2) (v := .int .i64 r.sa) rfl
          have c3 := V1.out.cell (i := 3) (v := .int .i64 r.sb) rfl
          have d0 := V0.out.cell (i := 0) rfl
          have d1 := V0.out.cell (i := 1) rfl
          have d2 := V0.out.cell (i := 2) rfl
          have d3 := V0.out.cell (i := 3) rfl
          have f0 := V0.out.free 0
          have f1 := V0.out.free 1
          have f2 := V0.out.free 2
          have f3 := V0.out.free 3
          obtain ⟨o0, g0⟩ := V0.out.set 0 (.string r.a)
          obtain ⟨o1, g1⟩ := o0.set 1 (.string r.b)
          obtain ⟨o2, g2⟩ := o1.set 2 (.int .i64 r.sa)
          obtain ⟨o3, g3⟩ := o2.set 3 (.int .i64 r.sb)
          have GG := grownBy_trans (grownBy_trans (grownBy_trans g0 g1) g2) g3
          replace HS := Lib.hid (HS.out.grown GG (fun g e => by simp at e; omega))
          replace G := Lib.hid (grown_over G.out GG (by omega))
          have e0 := o3.cell (i := 0) (v := .string r.a) rfl
          have e1 := o3.cell (i := 1) (v := .string r.b) rfl
          have e2 := o3.cell (i := 2) (v := .int .i64 r.sa) rfl
          have e3 := o3.cell (i := 3) (v := .int .i64 r.sb) rfl
          clear o0 o1 o2 o3 g0 g1 g2 g3 GG
          go_wp2
          refine bodyPost_ret (v := .agg #[.string r.a, .string r.b, .int .i64 r.sa, .int .i64 r.sb]) (by simp [results, Tryz.results40, go_sem, e0, e1, e2, e3]) rfl ?_
          exact ⟨r, rfl, HR.out, HS.out.mono (Nat.le_refl _) (by omega), G.out⟩
        · by_cases t3 : z = 3
          · subst t3
            have c2 := V1.out.cell (i := 2) (v := .int .i64 r1.sa) rfl
            have c3 := V1.out.cell (i := 3) rfl
            have f3 := V1.out.free 3
            go_upto_region 19 with fail
            clear c2 c3 f3
            obtain ⟨o8, g8⟩ := V1.out.set 3 (.int .i64 r1.sa)
            replace HS := Lib.hid (HS.out.grown g8 (fun g e => by simp at e; omega))
            replace V0 := Lib.hid (V0.out.grown g8 (by simp; omega))
            replace G := Lib.hid (grown_over G.out g8 (by omega))
            replace V1 := Lib.hid (o8.as (cs' := resCells ⟨r1.a, r1.b, r1.sa, r1.sa⟩) rfl)
            replace HR : Hid (((⟨r1.a, r1.b, r1.sa, r1.sa⟩) : Res).tiny) := Lib.hid ⟨HR.out.1, HR.out.2.1, HR.out.2.2.1, HR.out.2.2.1⟩
            clear o8 g8
            obtain ⟨r, hrr⟩ : ∃ r : Res, r = ⟨r1.a, r1.b, r1.sa, r1.sa⟩ := ⟨_, rfl⟩
            rw [← hrr] at V1 HR
            clear hrr
            have hb1 := V1.out.lt
            have c0 := V1.out.cell (i := 0) (v := .string r.a) rfl
            have c1 := V1.out.cell (i := 1) (v := .string r.b) rfl
            have c2 := V1.out.cell (i := 2) (v := .int .i64 r.sa) rfl
            have c3 := V1.out.cell (i := 3) (v := .int .i64 r.sb) rfl
            have d0 := V0.out.cell (i := 0) rfl
            have d1 := V0.out.cell (i := 1) rfl
            have d2 := V0.out.cell (i := 2) rfl
            have d3 := V0.out.cell (i := 3) rfl
            have f0 := V0.out.free 0
            have f1 := V0.out.free 1
            have f2 := V0.out.free 2
            have f3 := V0.out.free 3
            obtain ⟨o0, g0⟩ := V0.out.set 0 (.string r.a)
            obtain ⟨o1, g1⟩ := o0.set 1 (.string r.b)
            obtain ⟨o2, g2⟩ := o1.set 2 (.int .i64 r.sa)
            obtain ⟨o3, g3⟩ := o2.set 3 (.int .i64 r.sb)
            have GG := grownBy_trans (grownBy_trans (grownBy_trans g0 g1) g2) g3
            replace HS := Lib.hid (HS.out.grown GG (fun g e => by simp at e; omega))
            replace G := Lib.hid (grown_over G.out GG (by omega))
            have e0 := o3.cell (i := 0) (v := .string r.a) rfl
            have e1 := o3.cell (i := 1) (v := .string r.b) rfl
            have e2 := o3.cell (i := 2) (v := .int .i64 r.sa) rfl
            have e3 := o3.cell (i := 3) (v := .int .i64 r.sb) rfl
            clear o0 o1 o2 o3 g0 g1 g2 g3 GG
            go_wp2
            refine bodyPost_ret (v := .agg #[.string r.a, .string r.b, .int .i64 r.sa, .int .i64 r.sb]) (by simp [results, Tryz.results40, go_sem, e0, e1, e2, e3]) rfl ?_
            exact ⟨r, rfl, HR.out, HS.out.mono (Nat.le_refl _) (by omega), G.out⟩
          · by_cases t4 : z = 4
            · subst t4
              have c0 := V1.out.cell (i := 0) (v := .string r1.a) rfl
              have c1 := V1.out.cell (i := 1) rfl
              have c2 := V1.out.cell (i := 2) rfl
              have c3 := V1.out.cell (i := 3) rfl
              have f0 := V1.out.free 0
              have f1 := V1.out.free 1
              have f2 := V1.out.free 2
              have f3 := V1.out.free 3
              go_upto_region 19 with fail
              clear c0 c1 c2 c3 f0 f1 f2 f3
              obtain ⟨o8, g8⟩ := V1.out.set 0 (.string r1.a)
              replace HS := Lib.hid (HS.out.grown g8 (fun g e => by simp at e; omega))
              replace V0 := Lib.hid (V0.out.grown g8 (by simp; omega))
              replace G := Lib.hid (grown_over G.out g8 (by omega))
              replace V1 := Lib.hid (o8.as (cs' := resCells ⟨r1.a, r1.b, r1.sa, r1.sb⟩) rfl)
              replace HR : Hid (((⟨r1.a, r1.b, r1.sa, r1.sb⟩) : Res).tiny) := Lib.hid HR.out
              clear o8 g8
              obtain ⟨o8, g8⟩ := V1.out.set 1 (.string ⟨#[]⟩)
              replace HS := Lib.hid (HS.out.grown g8 (fun g e => by simp at e; omega))
              replace V0 := Lib.hid (V0.out.grown g8 (by simp; omega))
              replace G := Lib.hid (grown_over G.out g8 (by omega))
              replace V1 := Lib.hid (o8.as (cs' := resCells ⟨r1.a, ⟨#[]⟩, r1.sa, r1.sb⟩) rfl)
              replace HR : Hid (((⟨r1.a, ⟨#[]⟩, r1.sa, r1.sb⟩) : Res).tiny) := Lib.hid ⟨HR.out.1, emp_tiny, HR.out.2.2⟩
              clear o8 g8
              obtain ⟨o8, g8⟩ := V1.out.set 2 (.int .i64 0)
              replace HS := Lib.hid (HS.out.grown g8 (fun g e => by simp at e; omega))
              replace V0 := Lib.hid (V0.out.grown g8 (by simp; omega))
              replace G := Lib.hid (grown_over G.out g8 (by omega))
              replace V1 := Lib.hid (o8.as (cs' := resCells ⟨r1.a, ⟨#[]⟩, 0, r1.sb⟩) rfl)
              replace HR : Hid (((⟨r1.a, ⟨#[]⟩, 0, r1.sb⟩) : Res).tiny) := Lib.hid ⟨HR.out.1, HR.out.2.1, zero_tiny, HR.out.2.2.2⟩
              clear o8 g8
              obtain ⟨o8, g8⟩ := V1.out.set 3 (.int .i64 0)
              replace HS := Lib.hid (HS.out.grown g8 (fun g e => by simp at e; omega))
              replace V0 := Lib.hid (V0.out.grown g8 (by simp; omega))
              replace G := Lib.hid (grown_over G.out g8 (by omega))
              replace V1 := Lib.hid (o8.as (cs' := resCells ⟨r1.a, ⟨#[]⟩, 0, 0⟩) rfl)
              replace HR : Hid (((⟨r1.a, ⟨#[]⟩, 0, 0⟩) : Res).tiny) := Lib.hid ⟨HR.out.1, HR.out.2.1, zero_tiny, zero_tiny⟩
              clear o8 g8
              obtain ⟨r, hrr⟩ : ∃ r : Res, r = ⟨r1.a, ⟨#[]⟩, 0, 0⟩ := ⟨_, rfl⟩
              rw [← hrr] at V1 HR
              clear hrr
              have hb1 := V1.out.lt
              have c0 := V1.out.cell (i := 0) (v := .string r.a) rfl
              have c1 := V1.out.cell (i := 1) (v := .string r.b) rfl
              have c2 := V1.out.cell (i := 2) (v := .int .i64 r.sa) rfl
              have c3 := V1.out.cell (i := 3) (v := .int .i64 r.sb) rfl
              have d0 := V0.out.cell (i := 0) rfl
              have d1 := V0.out.cell (i := 1) rfl
              have d2 := V0.out.cell (i := 2) rfl
              have d3 := V0.out.cell (i := 3) rfl
              have f0 := V0.out.free 0
              have f1 := V0.out.free 1
              have f2 := V0.out.free 2
              have f3 := V0.out.free 3
              obtain ⟨o0, g0⟩ := V0.out.set 0 (.string r.a)
              obtain ⟨o1, g1⟩ := o0.set 1 (.string r.b)
              obtain ⟨o2, g2⟩ := o1.set 2 (.int .i64 r.sa)
              obtain ⟨o3, g3⟩ := o2.set 3 (.int .i64 r.sb)
              have GG := grownBy_trans (grownBy_trans (grownBy_trans g0 g1) g2) g3
              replace HS := Lib.hid (HS.out.grown GG (fun g e => by simp at e; omega))
              replace G := Lib.hid (grown_over G.out GG (by omega))
              have e0 := o3.cell (i := 0) (v := .string r.a) rfl
              have e1 := o3.cell (i := 1) (v := .string r.b) rfl
              have e2 := o3.cell (i := 2) (v := .int .i64 r.sa) rfl
              have e3 := o3.cell (i := 3) (v := .int .i64 r.sb) rfl
              clear o0 o1 o2 o3 g0 g1 g2 g3 GG
              go_wp2
              refine bodyPost_ret (v := .agg #[.string r.a, .string r.b, .int .i64 r.sa, .int .i64 r.sb]) (by simp [results, Tryz.results40, go_sem, e0, e1, e2, e3]) rfl ?_
              exact ⟨r, rfl, HR.out, HS.out.mono (Nat.le_refl _) (by omega), G.out⟩
            · have e0 : (z == 0) = false := by simpa using t0
              have e1 : (z == 1) = false := by simpa using t1
              have e2 : (z == 2) = false := by simpa using t2
              have e3 : (z == 3) = false := by simpa using t3
              have e4 : (z == 4) = false := by simpa using t4
              go_upto_region 19 with fail
              clear e0 e1 e2 e3 e4
              obtain ⟨r, hrr⟩ : ∃ r : Res, r = r1 := ⟨_, rfl⟩
              rw [← hrr] at V1 HR
              clear hrr
              have hb1 := V1.out.lt
              have c0 := V1.out.cell (i := 0) (v := .string r.a) rfl
              have c1 := V1.out.cell (i := 1) (v := .string r.b) rfl
              have c2 := V1.out.cell (i := 2) (v := .int .i64 r.sa) rfl
              have c3 := V1.out.cell (i := 3) (v := .int .i64 r.sb) rfl
              have d0 := V0.out.cell (i := 0) rfl
              have d1 := V0.out.cell (i := 1) rfl
              have d2 := V0.out.cell (i := 2) rfl
              have d3 := V0.out.cell (i := 3) rfl
              have f0 := V0.out.free 0
              have f1 := V0.out.free 1
              have f2 := V0.out.free 2
              have f3 := V0.out.free 3
              obtain ⟨o0, g0⟩ := V0.out.set 0 (.string r.a)
              obtain ⟨o1, g1⟩ := o0.set 1 (.string r.b)
              obtain ⟨o2, g2⟩ := o1.set 2 (.int .i64 r.sa)
              obtain ⟨o3, g3⟩ := o2.set 3 (.int .i64 r.sb)
              have GG := grownBy_trans (grownBy_trans (grownBy_trans g0 g1) g2) g3
              replace HS := Lib.hid (HS.out.grown GG (fun g e => by simp at e; omega))
              replace G := Lib.hid (grown_over G.out GG (by omega))
              have e0 := o3.cell (i := 0) (v := .string r.a) rfl
              have e1 := o3.cell (i := 1) (v := .string r.b) rfl
              have e2 := o3.cell (i := 2) (v := .int .i64 r.sa) rfl
              have e3 := o3.cell (i := 3) (v := .int .i64 r.sb) rfl
              clear o0 o1 o2 o3 g0 g1 g2 g3 GG
              go_wp2
              refine bodyPost_ret (v := .agg #[.string r.a, .string r.b, .int .i64 r.sa, .int .i64 r.sb]) (by simp [results, Tryz.results40, go_sem, e0, e1, e2, e3]) rfl ?_
              exact ⟨r, rfl, HR.out, HS.out.mono (Nat.le_refl _) (by omega), G.out⟩
end Go.Proofs.YtlbnjdgfggiifaaGreatDoor
