/- Contract: the line of one member (reference). -/
import Derived.Test.YtpodkgfapbcmlaaStA
import Derived.IntWalk
namespace Go.Proofs.Ytpodkgfapbcmlaa
open Go.ChangeShapes Go.WideShapes Go.ChangeAt Go.RowKit Go.Sort

theorem row_new (w : World) (s : Std) (e : TypeId) (base : Nat) (hb : base ≤ w.heap.size) : (w.alloc (.cells #[.string s.name, .int .i64 s.points, .int .i64 s.spread, .int .i64 s.games] e)).ownsRow base e 4 (.slice (some ⟨w.heap.size, 0, none⟩) 1 1) 1 ([s].flatMap Std.enc) :=
  ⟨by simp [Std.enc_len], .inr ⟨w.heap.size, 1, #[.string s.name, .int .i64 s.points, .int .i64 s.spread, .int .i64 s.games], rfl, hb, heap_alloc_new w _, Nat.le_refl _, by unfold maxLen; omega, rfl, by simp [Std.enc]⟩⟩
theorem row_std {w : World} {B g cap : Nat} {e : TypeId} {s : Std} (h : w.ownsRow B e 4 (.slice (some ⟨g, 0, none⟩) 1 cap) 1 ([s].flatMap Std.enc)) : StdAt w g 0 s := by
  have p0 := own_cells Std.enc_len h rfl (i := 0) (by simp) (j := 0) (v := .string s.name) rfl
  have p1 := own_cells Std.enc_len h rfl (i := 0) (by simp) (j := 1) (v := .int .i64 s.points) rfl
  have p2 := own_cells Std.enc_len h rfl (i := 0) (by simp) (j := 2) (v := .int .i64 s.spread) rfl
  have p3 := own_cells Std.enc_len h rfl (i := 0) (by simp) (j := 3) (v := .int .i64 s.games) rfl
  simp only [Nat.zero_mul, Nat.zero_add] at p0 p1 p2 p3
  exact ⟨p0, p1, p2, p3⟩
theorem row_set {w : World} {B g cap : Nat} {e : TypeId} {s : Std} (h : w.ownsRow B e 4 (.slice (some ⟨g, 0, none⟩) 1 cap) 1 ([s].flatMap Std.enc)) (j : Nat) (v : Value) (y : Std) (hj : j < 4) (hy : Std.enc y = (Std.enc s).set j v) :
    (w.setCell ⟨g, j, none⟩ v).ownsRow B e 4 (.slice (some ⟨g, 0, none⟩) 1 cap) 1 ([y].flatMap Std.enc) ∧ w.grownBy (w.setCell ⟨g, j, none⟩ v) (some g) := by
  obtain ⟨h1, h2⟩ := h.stored j v
  refine ⟨own_as h1 ?_, h2⟩
  have := std_set (L := [s]) (i := 0) (by simp) j hj v y hy
  rw [Nat.zero_mul, Nat.zero_add] at this
  exact this

set_option maxRecDepth 100000 in
set_option maxHeartbeats 8000000 in
theorem l26Line_any (nm : ByteArray) (rs : List Res) (ra : Option Addr) (rcap : Nat) (w : World) (hr : SliceAt w 4 Res.enc ra rs) (hlr : rs.length ≤ 200) (hok : rs.all resOk = true) :
    Calls Try.prog 123 #[.string nm, .slice ra rs.length rcap] w fun e w' => e = .returned (.agg #[.string nm, .int .i64 (lineOf nm rs).points, .int .i64 (lineOf nm rs).spread, .int .i64 (lineOf nm rs).games]) ∧ Below w.heap.size w w' := by
  have HRS := Lib.hid hr; clear hr
  have HOK := Lib.hid hok; clear hok
  obtain ⟨w2, hw2⟩ : ∃ w2, w2 = (w.alloc (.cells #[.string ⟨#[]⟩, .int .i64 0, .int .i64 0, .int .i64 0] 74)).alloc (.cells #[.string nm, .int .i64 0, .int .i64 0, .int .i64 0] 74) := ⟨_, rfl⟩
  have hb : Below w.heap.size w w2 := by rw [hw2]; exact ((Below.refl _ _).alloc (Nat.le_refl _) _).alloc (by simp) _
  have O0 : Hid (w2.ownsRow w.heap.size 74 4 (.slice (some ⟨w.heap.size, 0, none⟩) 1 1) 1 ([⟨⟨#[]⟩, 0, 0, 0⟩].flatMap Std.enc)) := by
    rw [hw2]
    exact Lib.hid (own_alloc (row_new w ⟨⟨#[]⟩, 0, 0, 0⟩ _ _ (Nat.le_refl _)) _)
  have O1 : Hid (w2.ownsRow w.heap.size 74 4 (.slice (some ⟨w.heap.size + 1, 0, none⟩) 1 1) 1 ([⟨nm, 0, 0, 0⟩].flatMap Std.enc)) := by
    rw [hw2]
    have := row_new (w.alloc (.cells #[.string ⟨#[]⟩, .int .i64 0, .int .i64 0, .int .i64 0] 74)) ⟨nm, 0, 0, 0⟩ 74 w.heap.size (by simp)
    rw [show (w.alloc (.cells #[.string ⟨#[]⟩, .int .i64 0, .int .i64 0, .int .i64 0] 74)).heap.size = w.heap.size + 1 from by simp] at this
    exact Lib.hid this
  have HW2 := Lib.hid hw2; clear hw2
  go_enter Try.func123, Try.ntmps123
  go_wp2
  rw [← HW2.out]
  go_loopw [6] (fun iv wr => ∃ k : Nat, k ≤ rs.length ∧ iv = .int .i64 k ∧ Hid (wr.ownsRow w.heap.size 74 4 (.slice (some ⟨w.heap.size, 0, none⟩) 1 1) 1 ([⟨⟨#[]⟩, 0, 0, 0⟩].flatMap Std.enc)) ∧
      Hid (wr.ownsRow w.heap.size 74 4 (.slice (some ⟨w.heap.size + 1, 0, none⟩) 1 1) 1 ([lineOf nm (rs.take k)].flatMap Std.enc)) ∧ Below w.heap.size w wr) (fun iv _ => rs.length - (intOf iv).toNat)
  case atStart => exact ⟨0, Nat.zero_le _, rfl, O0, O1, hb⟩
  case round =>
    clear O0 O1 hb HW2
    obtain ⟨k, hk, rfl, O0, O1, hb⟩ := hrel
    by_cases hlt : k < rs.length
    · obtain ⟨xb, xo, hab, hcs⟩ := (HRS.out.kept hb).open hlt
      have hxw : xb < w.heap.size := by
        obtain ⟨mb', mo', hab', hcs'⟩ := HRS.out.open hlt
        rw [hab] at hab'
        simp only [Option.some.injEq, Addr.mk.injEq, and_true] at hab'
        obtain ⟨rfl, rfl⟩ := hab'
        exact block_lt (hcs'.at0 hlt rfl)
      subst hab
      obtain ⟨e0, e1, e2, e3⟩ := resAt_of hcs hlt
      clear hcs
      obtain ⟨q0, q1, q2, q3, q4, q5⟩ := lineOf_bd (nm := nm) HOK.out k hk
      have HSUCC := Lib.hid (lineOf_succ (nm := nm) hlt)
      have HRO := Lib.hid (List.all_eq_true.1 HOK.out _ (List.getElem_mem hlt))
      obtain ⟨t0, t1, t2, t3⟩ := scOk_of HRO.out
      generalize lineOf nm (rs.take k) = s at *
      cases hA : (rs[k].a.toList == nm.toList) with
      | true =>
        cases hB0 : rs[k].b.toList.isEmpty with
        | true =>
          have hbn : rs[k].b.toList = [] := List.isEmpty_iff.1 hB0
          have HL := Lib.hid (lineAdd_bye (s := s) hA hB0)
          obtain ⟨p0, p1, p2, p3⟩ := row_std O1.out
          have f1 := O1.out.frozenAt 1
          obtain ⟨o1, g1⟩ := row_set O1.out 1 (.int .i64 (s.points + 2)) (byed s) (by decide) rfl
          have Z0 := Lib.hid (O0.out.kept g1 (.inr (by simp [Value.ownBlock])))
          have ZB := hb.grown g1 hb.size (fun k hk => by simp at hk; omega)
          have Z1 := Lib.hid o1
          clear o1 g1
          go_wp2
          go_roundw
          case rel => exact ⟨k + 1, by omega, by go_num, Z0, Lib.hid (by rw [HSUCC.out, HL.out]; exact Z1.out), ZB⟩
          case measure => simp [intOf]; omega
        | false =>
          have hbn : ¬ rs[k].b.toList = [] := fun e => by rw [e] at hB0; simp at hB0
          have hB : (rs[k].b.toList == nm.toList) = false := by
            rw [beq_eq_false_iff_ne]
            intro e
            obtain ⟨_, _, _, _, hne⟩ := scores_game HRO.out hB0
            exact hne ((beq_iff_eq.1 hA).trans e.symm)
          have HL := Lib.hid (lineAdd_a (s := s) hA hB0 hB)
          go_wp2
          have hd : Below wr.heap.size wr wr.drew := (Below.refl _ _).drew
          replace O1 := Lib.hid (own_below O1.out hd)
          replace O0 := Lib.hid (own_below O0.out hd)
          replace hb := hb.trans (hd.mono hb.size)
          replace e0 := cell_kept e0 hd
          replace e1 := cell_kept e1 hd
          replace e2 := cell_kept e2 hd
          replace e3 := cell_kept e3 hd
          clear hd
          obtain ⟨p0, p1, p2, p3⟩ := row_std O1.out
          have f1 := O1.out.frozenAt 1
          have HS := Lib.hid (still_of (l26Points_any rs[k].sa rs[k].sb wr.drew))
          obtain ⟨l0, l1⟩ := linePts_bd rs[k].sa rs[k].sb
          refine wp_region_still_tail 12 (by kernel_rfl) (by kernel_rfl) ?_
          simp only [List.take_succ_cons, List.take_zero, List.drop_succ_cons, List.drop_zero]
          change wpStill _ _ wr.drew (fun a' => wpList _ _ _ _ a' wr.drew) _ _
          generalize wr.drew = wd at *
          have v1 : IntKind.i64.wrap (s.points + linePts rs[k].sa rs[k].sb) = s.points + linePts rs[k].sa rs[k].sb := IntWalk.i64_in _ (by omega)
          repeat still_step
          still_call HS.out
          repeat still_step
          refine wpStill_nil ?_
          clear v1 HS
          go_wp2_with fail
          obtain ⟨o1, g1⟩ := row_set O1.out 1 (.int .i64 (s.points + linePts rs[k].sa rs[k].sb)) ⟨s.name, s.points + linePts rs[k].sa rs[k].sb, s.spread, s.games⟩ (by decide) rfl
          replace O0 := Lib.hid (O0.out.kept g1 (.inr (by simp [Value.ownBlock])))
          replace e0 := g1.cell e0 (by simp; omega)
          replace e1 := g1.cell e1 (by simp; omega)
          replace e2 := g1.cell e2 (by simp; omega)
          replace e3 := g1.cell e3 (by simp; omega)
          replace hb := hb.grown g1 hb.size (fun k hk => by simp at hk; omega)
          replace O1 := Lib.hid o1
          clear o1 g1 p0 p1 p2 p3 f1
          generalize wd.setCell ⟨w.heap.size + 1, 1, none⟩ (.int .i64 (s.points + linePts rs[k].sa rs[k].sb)) = wa at *
          have hd : Below wa.heap.size wa wa.drew := (Below.refl _ _).drew
          replace O1 := Lib.hid (own_below O1.out hd)
          replace O0 := Lib.hid (own_below O0.out hd)
          replace hb := hb.trans (hd.mono hb.size)
          replace e0 := cell_kept e0 hd
          replace e1 := cell_kept e1 hd
          replace e2 := cell_kept e2 hd
          replace e3 := cell_kept e3 hd
          clear hd
          obtain ⟨p0, p1, p2, p3⟩ := row_std O1.out
          have f2 := O1.out.frozenAt 2
          refine wp_region_still_tail 12 (by kernel_rfl) (by kernel_rfl) ?_
          simp only [List.take_succ_cons, List.take_zero, List.drop_succ_cons, List.drop_zero]
          change wpStill _ _ wa.drew (fun a' => wpList _ _ _ _ a' wa.drew) _ _
          generalize wa.drew = wb at *
          obtain ⟨o2, g2⟩ := row_set O1.out 2 (.int .i64 (s.spread + (rs[k].sa - rs[k].sb))) ⟨s.name, s.points + linePts rs[k].sa rs[k].sb, s.spread + (rs[k].sa - rs[k].sb), s.games⟩ (by decide) rfl
          obtain ⟨P0, P1, P2, P3⟩ := row_std o2
          have F3 := o2.frozenAt 3
          obtain ⟨o3, g3⟩ := row_set o2 3 (.int .i64 (s.games + 1)) (scored s rs[k].sa rs[k].sb) (by decide) (by simp [Std.enc, scored, scored_pts])
          have G := grownBy_trans g2 g3
          have E1 := G.cell e1 (by simp; omega)
          have Z0 := Lib.hid (O0.out.kept G (.inr (by simp [Value.ownBlock])))
          have ZB := hb.grown G hb.size (fun k hk => by simp at hk; omega)
          have Z1 := Lib.hid o3
          clear o2 g2 o3 g3 G P0 P1 P2
          have v1 : IntKind.i64.wrap (rs[k].sa - rs[k].sb) = rs[k].sa - rs[k].sb := IntWalk.i64_in _ (by omega)
          have v2 : IntKind.i64.wrap (s.spread + (rs[k].sa - rs[k].sb)) = s.spread + (rs[k].sa - rs[k].sb) := IntWalk.i64_in _ (by omega)
          repeat still_step
          refine wpStill_nil ?_
          clear v1 v2
          go_wp2
          go_roundw
          case rel => exact ⟨k + 1, by omega, by go_num, Z0, Lib.hid (by rw [HSUCC.out, HL.out]; exact Z1.out), ZB⟩
          case measure => simp [intOf]; omega
      | false =>
        cases hB : (rs[k].b.toList == nm.toList) with
        | true =>
          have HL := Lib.hid (lineAdd_b (s := s) hA hB)
          go_wp2
          have hd : Below wr.heap.size wr wr.drew := (Below.refl _ _).drew
          replace O1 := Lib.hid (own_below O1.out hd)
          replace O0 := Lib.hid (own_below O0.out hd)
          replace hb := hb.trans (hd.mono hb.size)
          replace e0 := cell_kept e0 hd
          replace e1 := cell_kept e1 hd
          replace e2 := cell_kept e2 hd
          replace e3 := cell_kept e3 hd
          clear hd
          obtain ⟨p0, p1, p2, p3⟩ := row_std O1.out
          have f1 := O1.out.frozenAt 1
          have HS := Lib.hid (still_of (l26Points_any rs[k].sb rs[k].sa wr.drew))
          obtain ⟨l0, l1⟩ := linePts_bd rs[k].sb rs[k].sa
          refine wp_region_still_tail 12 (by kernel_rfl) (by kernel_rfl) ?_
          simp only [List.take_succ_cons, List.take_zero, List.drop_succ_cons, List.drop_zero]
          change wpStill _ _ wr.drew (fun a' => wpList _ _ _ _ a' wr.drew) _ _
          generalize wr.drew = wd at *
          have v1 : IntKind.i64.wrap (s.points + linePts rs[k].sb rs[k].sa) = s.points + linePts rs[k].sb rs[k].sa := IntWalk.i64_in _ (by omega)
          repeat still_step
          still_call HS.out
          repeat still_step
          refine wpStill_nil ?_
          clear v1 HS
          go_wp2_with fail
          obtain ⟨o1, g1⟩ := row_set O1.out 1 (.int .i64 (s.points + linePts rs[k].sb rs[k].sa)) ⟨s.name, s.points + linePts rs[k].sb rs[k].sa, s.spread, s.games⟩ (by decide) rfl
          replace O0 := Lib.hid (O0.out.kept g1 (.inr (by simp [Value.ownBlock])))
          replace e0 := g1.cell e0 (by simp; omega)
          replace e1 := g1.cell e1 (by simp; omega)
          replace e2 := g1.cell e2 (by simp; omega)
          replace e3 := g1.cell e3 (by simp; omega)
          replace hb := hb.grown g1 hb.size (fun k hk => by simp at hk; omega)
          replace O1 := Lib.hid o1
          clear o1 g1 p0 p1 p2 p3 f1
          generalize wd.setCell ⟨w.heap.size + 1, 1, none⟩ (.int .i64 (s.points + linePts rs[k].sb rs[k].sa)) = wa at *
          have hd : Below wa.heap.size wa wa.drew := (Below.refl _ _).drew
          replace O1 := Lib.hid (own_below O1.out hd)
          replace O0 := Lib.hid (own_below O0.out hd)
          replace hb := hb.trans (hd.mono hb.size)
          replace e0 := cell_kept e0 hd
          replace e1 := cell_kept e1 hd
          replace e2 := cell_kept e2 hd
          replace e3 := cell_kept e3 hd
          clear hd
          obtain ⟨p0, p1, p2, p3⟩ := row_std O1.out
          have f2 := O1.out.frozenAt 2
          refine wp_region_still_tail 12 (by kernel_rfl) (by kernel_rfl) ?_
          simp only [List.take_succ_cons, List.take_zero, List.drop_succ_cons, List.drop_zero]
          change wpStill _ _ wa.drew (fun a' => wpList _ _ _ _ a' wa.drew) _ _
          generalize wa.drew = wb at *
          obtain ⟨o2, g2⟩ := row_set O1.out 2 (.int .i64 (s.spread + (rs[k].sb - rs[k].sa))) ⟨s.name, s.points + linePts rs[k].sb rs[k].sa, s.spread + (rs[k].sb - rs[k].sa), s.games⟩ (by decide) rfl
          obtain ⟨P0, P1, P2, P3⟩ := row_std o2
          have F3 := o2.frozenAt 3
          obtain ⟨o3, g3⟩ := row_set o2 3 (.int .i64 (s.games + 1)) (scored s rs[k].sb rs[k].sa) (by decide) (by simp [Std.enc, scored, scored_pts])
          have G := grownBy_trans g2 g3
          have E1 := G.cell e1 (by simp; omega)
          have Z0 := Lib.hid (O0.out.kept G (.inr (by simp [Value.ownBlock])))
          have ZB := hb.grown G hb.size (fun k hk => by simp at hk; omega)
          have Z1 := Lib.hid o3
          clear o2 g2 o3 g3 G P0 P1 P2
          have v1 : IntKind.i64.wrap (rs[k].sb - rs[k].sa) = rs[k].sb - rs[k].sa := IntWalk.i64_in _ (by omega)
          have v2 : IntKind.i64.wrap (s.spread + (rs[k].sb - rs[k].sa)) = s.spread + (rs[k].sb - rs[k].sa) := IntWalk.i64_in _ (by omega)
          repeat still_step
          refine wpStill_nil ?_
          clear v1 v2
          go_wp2
          go_roundw
          case rel => exact ⟨k + 1, by omega, by go_num, Z0, Lib.hid (by rw [HSUCC.out, HL.out]; exact Z1.out), ZB⟩
          case measure => simp [intOf]; omega
        | false =>
          have HL := Lib.hid (lineAdd_none (s := s) hA hB)
          go_wp2
          go_roundw
          case rel => exact ⟨k + 1, by omega, by go_num, O0, Lib.hid (by rw [HSUCC.out, HL.out]; exact O1.out), hb⟩
          case measure => simp [intOf]; omega
    · rw [List.take_of_length_le (by omega)] at O1
      have hnm := Lib.hid (lineOf_name nm rs)
      obtain ⟨s, hsl⟩ : ∃ s, lineOf nm rs = s := ⟨_, rfl⟩
      rw [hsl] at O1 hnm
      have HSL := Lib.hid hsl
      clear hsl
      obtain ⟨p0, p1, p2, p3⟩ := row_std O1.out
      obtain ⟨d0, d1, d2, d3⟩ := row_std O0.out
      have f0 := O0.out.frozenAt 0
      have f1 := O0.out.frozenAt 1
      have f2 := O0.out.frozenAt 2
      have f3 := O0.out.frozenAt 3
      obtain ⟨o1, g1⟩ := row_set O0.out 0 (.string s.name) ⟨s.name, 0, 0, 0⟩ (by decide) rfl
      obtain ⟨o2, g2⟩ := row_set o1 1 (.int .i64 s.points) ⟨s.name, s.points, 0, 0⟩ (by decide) rfl
      obtain ⟨o3, g3⟩ := row_set o2 2 (.int .i64 s.spread) ⟨s.name, s.points, s.spread, 0⟩ (by decide) rfl
      obtain ⟨o4, g4⟩ := row_set o3 3 (.int .i64 s.games) s (by decide) rfl
      have ZB := hb.grown (grownBy_trans g1 (grownBy_trans g2 (grownBy_trans g3 g4))) hb.size (fun k hk => by simp at hk; omega)
      obtain ⟨r0, r1, r2, r3⟩ := row_std o4
      clear o1 o2 o3 o4 g1 g2 g3 g4
      go_wp2
      refine bodyPost_ret (v := .agg #[.string s.name, .int .i64 s.points, .int .i64 s.spread, .int .i64 s.games]) (by simp only [Nat.zero_add] at r0 r1 r2 r3; simp [results, Try.results123, go_sem, r0, r1, r2, r3]) rfl ?_
      refine ⟨?_, ZB⟩
      rw [HSL.out, hnm.out]
end Go.Proofs.Ytpodkgfapbcmlaa
