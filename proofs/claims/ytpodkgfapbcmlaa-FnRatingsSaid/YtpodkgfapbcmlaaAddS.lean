/- Contract: the reference's AddMember. -/
import Derived.Test.YtpodkgfapbcmlaaAddPost
import Derived.Test.YtpodkgfapbcmlaaAllS
import Derived.Test.YtpodkgfapbcmlaaBox
import Derived.Deep.DeepMust
import Derived.Deep.RegionLaw
namespace Go.Proofs.Ytpodkgfapbcmlaa
open Go.ChangeShapes Go.WideShapes Go.ChangeAt Go.RowKit Go.Sort

def addRest (d : Bool) (ms : List Mem) (m : Mem) : List Mem := if d = true then ms else addMem ms m
theorem mem_one' (m : Mem) : ∀ u ∈ Mem.enc m, u.oneCell' = true := by
  intro u hu
  simp only [Mem.enc, List.mem_cons, List.not_mem_nil, or_false] at hu
  rcases hu with rfl | rfl <;> rfl
theorem addRest_true {ms : List Mem} {m : Mem} {k : Nat} (h : k < ms.length) (L : List Mem) : (L ++ [ms[k]]) ++ addRest true (ms.drop (k + 1)) m = L ++ addRest true (ms.drop k) m := by
  unfold addRest
  rw [if_pos rfl, if_pos rfl, List.drop_eq_getElem_cons h]
  simp
theorem addRest_gt {ms : List Mem} {m : Mem} {k : Nat} (h : k < ms.length) (L : List Mem) (hg : (Op.bytesLess ms[k].name.toList m.name.toList || ms[k].name.toList == m.name.toList) = false) :
    ((L ++ [m]) ++ [ms[k]]) ++ addRest true (ms.drop (k + 1)) m = L ++ addRest false (ms.drop k) m := by
  unfold addRest
  rw [if_pos rfl, if_neg (by decide), List.drop_eq_getElem_cons h, addMem, if_pos hg]
  simp
theorem addRest_le {ms : List Mem} {m : Mem} {k : Nat} (h : k < ms.length) (L : List Mem) (hg : (Op.bytesLess ms[k].name.toList m.name.toList || ms[k].name.toList == m.name.toList) = true) :
    (L ++ [ms[k]]) ++ addRest false (ms.drop (k + 1)) m = L ++ addRest false (ms.drop k) m := by
  unfold addRest
  rw [if_neg (by decide), if_neg (by decide), List.drop_eq_getElem_cons h, addMem, if_neg (by rw [hg]; decide)]
  simp
theorem addRest_end {ms : List Mem} {m : Mem} {k : Nat} (h : ¬ k < ms.length) (d : Bool) (L : List Mem) : L ++ addRest d (ms.drop k) m = if d = true then L else L ++ [m] := by
  unfold addRest
  rw [List.drop_eq_nil_of_le (by omega)]
  cases d <;> simp [addMem]

set_option maxRecDepth 100000 in
set_option maxHeartbeats 8000000 in
theorem specAddMember_anyN (ms : List Mem) (m : Mem) (aq : Option Addr) (cap : Nat) (w : World) (hm : SliceAt w 2 Mem.enc aq ms) (hn : aq = none → ms = [] ∧ cap = 0) (hl : ms.length ≤ 1048576) (hf : MemsFit ms) (hfm : m.fit) :
    Calls Try.prog 30 #[.agg #[.slice aq ms.length cap], .agg #[.string m.name, .int .i64 m.rating]] w (ClubCode w (addMember ms m)) := by
  have HM := Lib.hid hm; clear hm
  have HNN := Lib.hid hn; clear hn
  obtain ⟨i0, hi0, hz0, hz1, hz2⟩ := info_parts infoMember
  obtain ⟨w1, hw1⟩ : ∃ w1, w1 = ((w.alloc (.cells #[.slice aq ms.length cap] 30)).alloc (.cells #[.string m.name, .int .i64 m.rating] 56)).alloc (.cells #[.slice none 0 0] 30) := ⟨_, rfl⟩
  have hb : Below w.heap.size w w1 := by rw [hw1]; exact (((Below.refl _ _).alloc (Nat.le_refl _) _).alloc (by simp) _).alloc (by simp; omega) _
  have c1 : w1.cell? ⟨w.heap.size, 0, none⟩ = some (.slice aq ms.length cap) := by rw [hw1]; exact cell_alloc (cell_alloc (cell_new0 w _ _ rfl) _) _
  have q0 : w1.cell? ⟨w.heap.size + 1, 0, none⟩ = some (.string m.name) := by
    rw [hw1]
    have := cell_alloc (cell_new0 (w.alloc (.cells #[.slice aq ms.length cap] 30)) #[.string m.name, .int .i64 m.rating] 56 (i := 0) (v := .string m.name) rfl) (.cells #[.slice none 0 0] 30)
    simpa using this
  have q1 : w1.cell? ⟨w.heap.size + 1, 0 + 1, none⟩ = some (.int .i64 m.rating) := by
    rw [hw1]
    have := cell_alloc (cell_new0 (w.alloc (.cells #[.slice aq ms.length cap] 30)) #[.string m.name, .int .i64 m.rating] 56 (i := 1) (v := .int .i64 m.rating) rfl) (.cells #[.slice none 0 0] 30)
    simpa using this
  have d1 : w1.cell? ⟨w.heap.size + 1 + 1, 0, none⟩ = some (.slice none 0 0) := by
    rw [hw1]
    have := cell_new0 ((w.alloc (.cells #[.slice aq ms.length cap] 30)).alloc (.cells #[.string m.name, .int .i64 m.rating] 56)) #[.slice none 0 0] 30 (i := 0) (v := .slice none 0 0) rfl
    simpa using this
  have f1 : w1.frozen? ⟨w.heap.size + 1 + 1, 0, none⟩ = false := by rw [hw1]; simp [go_sem]
  have HW1 := Lib.hid hw1; clear hw1
  cases hco : clubOk ms with
  | false =>
    have HR := Lib.hid (addMember_bad (m := m) (ms := ms) (by rw [hco]; rfl))
    have HCO := Lib.hid hco
    clear hi0 hz0 hz1 hz2 hco
    go_enter Try.func30, Try.ntmps30
    go_wp2_with fail
    rw [← HW1.out]
    refine (l26Ok_any ms _ 0 aq cap w1 c1 (HM.out.kept hb) (by omega) hf).mono ?_
    rintro e w2 ⟨rfl, hd0⟩
    have hd := hd0.below w1.heap.size
    clear hd0
    rw [HCO.out]
    replace f1 := frozen_kept f1 d1 hd
    replace hb := hb.trans (hd.mono hb.size)
    replace c1 := cell_kept c1 hd
    replace q0 := cell_kept q0 hd
    replace q1 := cell_kept q1 hd
    replace d1 := cell_kept d1 hd
    clear hd
    have hFin : (w2.setCell ⟨w.heap.size + 1 + 1, 0, none⟩ (.slice none 0 0)).cell? ⟨w.heap.size + 1 + 1, 0, none⟩ = some (.slice none 0 0) := by go_cell
    go_wp2
    refine bodyPost_ret (v := .tuple #[.agg #[.slice none 0 0], .int .i64 1]) (by simp [results, Try.results30, go_sem, hFin]) rfl ?_
    rw [HR.out]
    exact ⟨none, 0, rfl, by simpa using World.ownsRow_nil _ w.heap.size 56 2, hb.setCell (by simp; omega) _⟩
  | true =>
    have HCO := Lib.hid hco
    cases hmo : memOk m with
    | false =>
      have HMO := Lib.hid hmo
      have HR := Lib.hid (addMember_bad (m := m) (ms := ms) (by rw [hco, hmo]; rfl))
      clear hco hmo hi0 hz0 hz1 hz2
      go_enter Try.func30, Try.ntmps30
      go_wp2_with fail
      rw [← HW1.out]
      refine (l26Ok_any ms _ 0 aq cap w1 c1 (HM.out.kept hb) (by omega) hf).mono ?_
      rintro e w2 ⟨rfl, hd0⟩
      have hd := hd0.below w1.heap.size
      clear hd0
      rw [HCO.out]
      replace f1 := frozen_kept f1 d1 hd
      replace hb := hb.trans (hd.mono hb.size)
      replace c1 := cell_kept c1 hd
      replace q0 := cell_kept q0 hd
      replace q1 := cell_kept q1 hd
      replace d1 := cell_kept d1 hd
      clear hd
      go_wp2_with fail
      refine (l26Member_any _ 0 m _ q0 q1 hfm).mono ?_
      rintro e w3 ⟨rfl, rfl⟩
      rw [HMO.out]
      have hFin : (w2.setCell ⟨w.heap.size + 1 + 1, 0, none⟩ (.slice none 0 0)).cell? ⟨w.heap.size + 1 + 1, 0, none⟩ = some (.slice none 0 0) := by go_cell
      go_wp2
      refine bodyPost_ret (v := .tuple #[.agg #[.slice none 0 0], .int .i64 1]) (by simp [results, Try.results30, go_sem, hFin]) rfl ?_
      rw [HR.out]
      exact ⟨none, 0, rfl, by simpa using World.ownsRow_nil _ w.heap.size 56 2, hb.setCell (by simp; omega) _⟩
    | true =>
      have HMO := Lib.hid hmo
      have hall : (clubOk ms && memOk m) = true := by rw [hco, hmo]; rfl
      clear hco hmo
      by_cases hfd : 0 ≤ findMem m.name ms
      · have HR := Lib.hid (addMember_found hall hfd)
        clear hall hi0 hz0 hz1 hz2
        go_enter Try.func30, Try.ntmps30
        go_wp2_with fail
        rw [← HW1.out]
        refine (l26Ok_any ms _ 0 aq cap w1 c1 (HM.out.kept hb) (by omega) hf).mono ?_
        rintro e w2 ⟨rfl, hd0⟩
        have hd := hd0.below w1.heap.size
        clear hd0
        rw [HCO.out]
        replace f1 := frozen_kept f1 d1 hd
        replace hb := hb.trans (hd.mono hb.size)
        replace c1 := cell_kept c1 hd
        replace q0 := cell_kept q0 hd
        replace q1 := cell_kept q1 hd
        replace d1 := cell_kept d1 hd
        clear hd
        go_wp2_with fail
        refine (l26Member_any _ 0 m _ q0 q1 hfm).mono ?_
        rintro e w3 ⟨rfl, rfl⟩
        rw [HMO.out]
        go_wp2_with fail
        refine (l26Find_any ms m.name _ 0 aq cap _ c1 (HM.out.kept hb) (by omega)).mono ?_
        rintro e w3 ⟨rfl, rfl⟩
        generalize findMem m.name ms = fd at *
        have hFin : (w2.setCell ⟨w.heap.size + 1 + 1, 0, none⟩ (.slice none 0 0)).cell? ⟨w.heap.size + 1 + 1, 0, none⟩ = some (.slice none 0 0) := by go_cell
        go_wp2
        refine bodyPost_ret (v := .tuple #[.agg #[.slice none 0 0], .int .i64 4]) (by simp [results, Try.results30, go_sem, hFin]) rfl ?_
        rw [HR.out]
        exact ⟨none, 0, rfl, by simpa using World.ownsRow_nil _ w.heap.size 56 2, hb.setCell (by simp; omega) _⟩
      · by_cases h12 : 12 ≤ ms.length
        · have HR := Lib.hid (addMember_full hall hfd h12)
          clear hall hi0 hz0 hz1 hz2
          go_enter Try.func30, Try.ntmps30
          go_wp2_with fail
          rw [← HW1.out]
          refine (l26Ok_any ms _ 0 aq cap w1 c1 (HM.out.kept hb) (by omega) hf).mono ?_
          rintro e w2 ⟨rfl, hd0⟩
          have hd := hd0.below w1.heap.size
          clear hd0
          rw [HCO.out]
          replace f1 := frozen_kept f1 d1 hd
          replace hb := hb.trans (hd.mono hb.size)
          replace c1 := cell_kept c1 hd
          replace q0 := cell_kept q0 hd
          replace q1 := cell_kept q1 hd
          replace d1 := cell_kept d1 hd
          clear hd
          go_wp2_with fail
          refine (l26Member_any _ 0 m _ q0 q1 hfm).mono ?_
          rintro e w3 ⟨rfl, rfl⟩
          rw [HMO.out]
          go_wp2_with fail
          refine (l26Find_any ms m.name _ 0 aq cap _ c1 (HM.out.kept hb) (by omega)).mono ?_
          rintro e w3 ⟨rfl, rfl⟩
          generalize findMem m.name ms = fd at *
          have hFin : (w2.setCell ⟨w.heap.size + 1 + 1, 0, none⟩ (.slice none 0 0)).cell? ⟨w.heap.size + 1 + 1, 0, none⟩ = some (.slice none 0 0) := by go_cell
          go_wp2
          refine bodyPost_ret (v := .tuple #[.agg #[.slice none 0 0], .int .i64 5]) (by simp [results, Try.results30, go_sem, hFin]) rfl ?_
          rw [HR.out]
          exact ⟨none, 0, rfl, by simpa using World.ownsRow_nil _ w.heap.size 56 2, hb.setCell (by simp; omega) _⟩
        · have HR := Lib.hid (addMember_ok hall hfd h12)
          have h12b : decide ((12 : Int) ≤ (ms.length : Int)) = false := by simp; omega
          have hfdb : decide ((0 : Int) ≤ findMem m.name ms) = false := by simpa using hfd
          clear hall
          go_enter Try.func30, Try.ntmps30
          go_wp2_with fail
          rw [← HW1.out]
          refine (l26Ok_any ms _ 0 aq cap w1 c1 (HM.out.kept hb) (by omega) hf).mono ?_
          rintro e w2 ⟨rfl, hd0⟩
          have hd := hd0.below w1.heap.size
          clear hd0
          rw [HCO.out]
          replace f1 := frozen_kept f1 d1 hd
          replace hb := hb.trans (hd.mono hb.size)
          replace c1 := cell_kept c1 hd
          replace q0 := cell_kept q0 hd
          replace q1 := cell_kept q1 hd
          replace d1 := cell_kept d1 hd
          clear hd
          go_wp2_with fail
          refine (l26Member_any _ 0 m _ q0 q1 hfm).mono ?_
          rintro e w3 ⟨rfl, rfl⟩
          rw [HMO.out]
          go_wp2_with fail
          refine (l26Find_any ms m.name _ 0 aq cap _ c1 (HM.out.kept hb) (by omega)).mono ?_
          rintro e w3 ⟨rfl, rfl⟩
          generalize findMem m.name ms = fd at *
          go_upto_region 8 with fail
          have hd : Below w2.heap.size w2 (w2.alloc (.cells #[.slice none 0 0] 30)) := (Below.refl _ _).alloc (Nat.le_refl _) _
          have c6 := cell_new0 w2 #[.slice none 0 0] 30 (i := 0) (v := .slice none 0 0) rfl
          have f6 : (w2.alloc (.cells #[.slice none 0 0] 30)).frozen? ⟨w2.heap.size, 0, none⟩ = false := by simp [go_sem]
          have b2 := block_lt d1
          replace f1 := frozen_kept f1 d1 hd
          replace hb := hb.trans (hd.mono hb.size)
          replace c1 := cell_kept c1 hd
          replace q0 := cell_kept q0 hd
          replace q1 := cell_kept q1 hd
          replace d1 := cell_kept d1 hd
          clear hd
          have hB : w2.heap.size + 1 ≤ (w2.alloc (.cells #[.slice none 0 0] 30)).heap.size := by simp
          generalize w2.alloc (.cells #[.slice none 0 0] 30) = w3 at *
          have HO : Hid (w3.ownsRow (w2.heap.size + 1) 56 2 (.slice none 0 0) 0 (([] : List Mem).flatMap Mem.enc)) := Lib.hid (by simpa using World.ownsRow_nil w3 (w2.heap.size + 1) 56 2)
          go_wp2_with fail
          go_loopw [7, 8] (fun dv iv wr => ∃ (k : Nat) (d : Bool) (L : List Mem), dv = .bool d ∧ iv = .int .i64 k ∧ k ≤ ms.length ∧ Hid (L.length ≤ k + d.toNat) ∧ Hid (L ++ addRest d (ms.drop k) m = addMem ms m) ∧
              (∃ ak ck, wr.cell? ⟨w2.heap.size, 0, none⟩ = some (.slice ak L.length ck) ∧ Hid (wr.ownsRow (w2.heap.size + 1) 56 2 (.slice ak L.length ck) L.length (L.flatMap Mem.enc))) ∧ wr.frozen? ⟨w2.heap.size, 0, none⟩ = false ∧
              wr.cell? ⟨w.heap.size, 0, none⟩ = some (.slice aq ms.length cap) ∧ wr.cell? ⟨w.heap.size + 1, 0, none⟩ = some (.string m.name) ∧ wr.cell? ⟨w.heap.size + 1, 0 + 1, none⟩ = some (.int .i64 m.rating) ∧
              wr.cell? ⟨w.heap.size + 1 + 1, 0, none⟩ = some (.slice none 0 0) ∧ wr.frozen? ⟨w.heap.size + 1 + 1, 0, none⟩ = false ∧ Below w.heap.size w wr ∧ w2.heap.size + 1 ≤ wr.heap.size) (fun _ iv _ => ms.length - (intOf iv).toNat)
          case atStart => exact ⟨0, false, [], rfl, rfl, Nat.zero_le _, Lib.hid (Nat.zero_le _), rfl, ⟨none, 0, c6, HO⟩, f6, c1, q0, q1, d1, f1, hb, hB⟩
          case round =>
            clear c6 f6 c1 q0 q1 d1 f1 hb hB HO
            obtain ⟨k, d, L, rfl, rfl, hk, HL, HI, ⟨ak, ck, c6, HO⟩, f6, c1, q0, q1, d1, f1, hb, hB⟩ := hrel
            by_cases hlt : k < ms.length
            · obtain ⟨mb, mo, hab, hcs⟩ := (HM.out.kept hb).open hlt
              have hmw : mb < w.heap.size := by
                obtain ⟨mb', mo', hab', hcs'⟩ := HM.out.open hlt
                rw [hab] at hab'
                simp only [Option.some.injEq, Addr.mk.injEq, and_true] at hab'
                obtain ⟨rfl, rfl⟩ := hab'
                exact block_lt (hcs'.at0 hlt rfl)
              subst hab
              have e0 := hcs.at0 hlt rfl
              have e1 := hcs k hlt 1 _ rfl
              clear hcs
              cases d with
              | true =>
                have HN := Lib.hid (addRest_true (m := m) hlt L)
                have hL : L.length ≤ k + 1 := by simpa using HL.out
                clear HL
                go_wp2
                go_quiet (fail)
                have hd : Below wr.heap.size wr (wr.drewN nq) := (Drew.drewN (Drew.refl _) nq).below _
                replace hB := Nat.le_trans hB hd.size
                replace f6 := frozen_kept f6 c6 hd
                replace f1 := frozen_kept f1 d1 hd
                replace hb := hb.trans (hd.mono hb.size)
                replace c6 := cell_kept c6 hd
                replace c1 := cell_kept c1 hd
                replace q0 := cell_kept q0 hd
                replace q1 := cell_kept q1 hd
                replace d1 := cell_kept d1 hd
                replace e0 := cell_kept e0 hd
                replace e1 := cell_kept e1 hd
                replace HO := Lib.hid (own_below HO.out hd)
                clear hd
                generalize wr.drewN nq = wa at *
                go_wp2_with fail
                have hk : Below wa.heap.size wa wa.drew := (Below.refl _ _).drew
                have k_c1 := cell_kept c1 hk
                have k_e0 := cell_kept e0 hk
                have k_e1 := cell_kept e1 hk
                have k_c6 := cell_kept c6 hk
                have k_f6 := frozen_kept f6 c6 hk
                have k_o := Lib.hid (own_below HO.out hk)
                have l6 : w2.heap.size < wa.heap.size := block_lt c6
                have n6 := World.new_ne wa.drew _ k_c6
                go_region_law
                  (((first | refine step_new_drew ?_ | refine step_new ?_); intro wz hxz hnz hoz; have nb0 : World.cell? wz ⟨_, 0, none⟩ = some (.string ms[k].name) := hnz.1 0 _ rfl; have nb1 : World.cell? wz ⟨_, 1, none⟩ = some (.int .i64 ms[k].rating) := hnz.1 1 _ rfl; replace k_f6 := frozen_kept k_f6 k_c6 hxz; replace k_c6 := cell_kept k_c6 hxz; replace k_c1 := cell_kept k_c1 hxz; replace k_e0 := cell_kept k_e0 hxz; replace k_e1 := cell_kept k_e1 hxz; replace k_o := Lib.hid (own_below k_o.out hxz); replace hk := hk.trans (hxz.mono hk.size); clear hxz hnz hoz; refine step_append_lies _ ?_ (.tmp 54) (.tmp 60) 28 ?_ (w2.heap.size + 1) 56 i0 (.agg #[.string ⟨#[]⟩, .int .i64 0]) 2 24 Try.underlying28 hi0 hz0 hz1 hz2 rfl (by decide) (.slice ak L.length ck) L.length (L.flatMap Mem.enc) ?_ k_o.out ⟨_, 0, none⟩ 1 1 (Mem.enc ms[k]) ?_ rfl (news2 nb0 nb1) (mem_one' ms[k]) (by decide) ?_ ?_ (Nat.le_trans hB hk.size) _ rfl ?_; (all_goals (first | rfl | (unfold maxLen; omega) | omega | skip)); intro g5 cap5 w5 ho5 hg5 hat5 hlt5; replace k_f6 := (hg5.frozen_far _ (block_lt k_c6) (ne_early k_o.out (Nat.lt_succ_self _))).trans k_f6; replace k_c6 := hg5.cell k_c6 (ne_early k_o.out (Nat.lt_succ_self _))))
                all_goals
                  replace c1 := app_cell hk k_o.out hg5 c1 (by omega)
                  replace q0 := app_cell hk k_o.out hg5 q0 (by omega)
                  replace q1 := app_cell hk k_o.out hg5 q1 (by omega)
                  replace f1 := app_frozen hk k_o.out hg5 f1 d1 (by omega)
                  replace d1 := app_cell hk k_o.out hg5 d1 (by omega)
                  replace hb := app_below hk k_o.out hg5 hb (by omega)
                  have HLEN := Lib.hid (show (L ++ [ms[k]]).length = L.length + 1 by simp)
                  have hB5 : w2.heap.size + 1 ≤ w5.heap.size := Nat.le_trans (Nat.le_trans hB hk.size) hg5.size
                  have H5 := Lib.hid (own_as ho5 (flat_snoc Mem.enc L ms[k]))
                  clear ho5 hg5 hat5 hlt5 k_o hk n6 l6 k_c1 k_e0 k_e1 nb0 nb1 e0 e1
                  go_wp2
                  go_roundw
                  case rel =>
                    refine ⟨k + 1, true, L ++ [ms[k]], rfl, by go_num, by omega, Lib.hid (by rw [HLEN.out]; simp; omega), Lib.hid (HN.out.trans HI.out), ⟨some ⟨g5, 0, none⟩, cap5, ?_, ?_⟩, ?_, cell_far c1 (by omega) _, cell_far q0 (by omega) _, cell_far q1 (by omega) _, cell_far d1 (by omega) _, ?_, hb.setCell (by simp only; omega) _, by simp [World.setCell]; omega⟩
                    · rw [HLEN.out]
                      exact World.cell?_setCell_same _ _ _ k_c6
                    · rw [HLEN.out]
                      exact Lib.hid (own_setCell H5.out (by omega) _)
                    · rw [World.frozen?_setCell]; exact k_f6
                    · rw [World.frozen?_setCell]; exact f1
                  case measure => simp [intOf]; omega
              | false =>
                have hL : L.length ≤ k := by simpa using HL.out
                clear HL
                cases hg : (Op.bytesLess ms[k].name.toList m.name.toList || ms[k].name.toList == m.name.toList) with
                | true =>
                  have HN := Lib.hid (addRest_le hlt L hg)
                  go_wp2
                  go_quiet (fail)
                  have hd : Below wr.heap.size wr (wr.drewN nq) := (Drew.drewN (Drew.refl _) nq).below _
                  replace hB := Nat.le_trans hB hd.size
                  replace f6 := frozen_kept f6 c6 hd
                  replace f1 := frozen_kept f1 d1 hd
                  replace hb := hb.trans (hd.mono hb.size)
                  replace c6 := cell_kept c6 hd
                  replace c1 := cell_kept c1 hd
                  replace q0 := cell_kept q0 hd
                  replace q1 := cell_kept q1 hd
                  replace d1 := cell_kept d1 hd
                  replace e0 := cell_kept e0 hd
                  replace e1 := cell_kept e1 hd
                  replace HO := Lib.hid (own_below HO.out hd)
                  clear hd
                  generalize wr.drewN nq = wa at *
                  clear hg
                  go_wp2_with fail
                  have hk : Below wa.heap.size wa wa.drew := (Below.refl _ _).drew
                  have k_c1 := cell_kept c1 hk
                  have k_e0 := cell_kept e0 hk
                  have k_e1 := cell_kept e1 hk
                  have k_c6 := cell_kept c6 hk
                  have k_f6 := frozen_kept f6 c6 hk
                  have k_o := Lib.hid (own_below HO.out hk)
                  have l6 : w2.heap.size < wa.heap.size := block_lt c6
                  have n6 := World.new_ne wa.drew _ k_c6
                  go_region_law
                    (((first | refine step_new_drew ?_ | refine step_new ?_); intro wz hxz hnz hoz; have nb0 : World.cell? wz ⟨_, 0, none⟩ = some (.string ms[k].name) := hnz.1 0 _ rfl; have nb1 : World.cell? wz ⟨_, 1, none⟩ = some (.int .i64 ms[k].rating) := hnz.1 1 _ rfl; replace k_f6 := frozen_kept k_f6 k_c6 hxz; replace k_c6 := cell_kept k_c6 hxz; replace k_c1 := cell_kept k_c1 hxz; replace k_e0 := cell_kept k_e0 hxz; replace k_e1 := cell_kept k_e1 hxz; replace k_o := Lib.hid (own_below k_o.out hxz); replace hk := hk.trans (hxz.mono hk.size); clear hxz hnz hoz; refine step_append_lies _ ?_ (.tmp 54) (.tmp 60) 28 ?_ (w2.heap.size + 1) 56 i0 (.agg #[.string ⟨#[]⟩, .int .i64 0]) 2 24 Try.underlying28 hi0 hz0 hz1 hz2 rfl (by decide) (.slice ak L.length ck) L.length (L.flatMap Mem.enc) ?_ k_o.out ⟨_, 0, none⟩ 1 1 (Mem.enc ms[k]) ?_ rfl (news2 nb0 nb1) (mem_one' ms[k]) (by decide) ?_ ?_ (Nat.le_trans hB hk.size) _ rfl ?_; (all_goals (first | rfl | (unfold maxLen; omega) | omega | skip)); intro g5 cap5 w5 ho5 hg5 hat5 hlt5; replace k_f6 := (hg5.frozen_far _ (block_lt k_c6) (ne_early k_o.out (Nat.lt_succ_self _))).trans k_f6; replace k_c6 := hg5.cell k_c6 (ne_early k_o.out (Nat.lt_succ_self _))))
                  all_goals
                    replace c1 := app_cell hk k_o.out hg5 c1 (by omega)
                    replace q0 := app_cell hk k_o.out hg5 q0 (by omega)
                    replace q1 := app_cell hk k_o.out hg5 q1 (by omega)
                    replace f1 := app_frozen hk k_o.out hg5 f1 d1 (by omega)
                    replace d1 := app_cell hk k_o.out hg5 d1 (by omega)
                    replace hb := app_below hk k_o.out hg5 hb (by omega)
                    have HLEN := Lib.hid (show (L ++ [ms[k]]).length = L.length + 1 by simp)
                    have hB5 : w2.heap.size + 1 ≤ w5.heap.size := Nat.le_trans (Nat.le_trans hB hk.size) hg5.size
                    have H5 := Lib.hid (own_as ho5 (flat_snoc Mem.enc L ms[k]))
                    clear ho5 hg5 hat5 hlt5 k_o hk n6 l6 k_c1 k_e0 k_e1 nb0 nb1 e0 e1
                    go_wp2
                    go_roundw
                    case rel =>
                      refine ⟨k + 1, false, L ++ [ms[k]], rfl, by go_num, by omega, Lib.hid (by rw [HLEN.out]; simp; omega), Lib.hid (HN.out.trans HI.out), ⟨some ⟨g5, 0, none⟩, cap5, ?_, ?_⟩, ?_, cell_far c1 (by omega) _, cell_far q0 (by omega) _, cell_far q1 (by omega) _, cell_far d1 (by omega) _, ?_, hb.setCell (by simp only; omega) _, by simp [World.setCell]; omega⟩
                      · rw [HLEN.out]
                        exact World.cell?_setCell_same _ _ _ k_c6
                      · rw [HLEN.out]
                        exact Lib.hid (own_setCell H5.out (by omega) _)
                      · rw [World.frozen?_setCell]; exact k_f6
                      · rw [World.frozen?_setCell]; exact f1
                    case measure => simp [intOf]; omega
                | false =>
                  have HN := Lib.hid (addRest_gt hlt L hg)
                  go_wp2
                  go_quiet (fail)
                  have hd : Below wr.heap.size wr (wr.drewN nq) := (Drew.drewN (Drew.refl _) nq).below _
                  replace hB := Nat.le_trans hB hd.size
                  replace f6 := frozen_kept f6 c6 hd
                  replace f1 := frozen_kept f1 d1 hd
                  replace hb := hb.trans (hd.mono hb.size)
                  replace c6 := cell_kept c6 hd
                  replace c1 := cell_kept c1 hd
                  replace q0 := cell_kept q0 hd
                  replace q1 := cell_kept q1 hd
                  replace d1 := cell_kept d1 hd
                  replace e0 := cell_kept e0 hd
                  replace e1 := cell_kept e1 hd
                  replace HO := Lib.hid (own_below HO.out hd)
                  clear hd
                  generalize wr.drewN nq = wa at *
                  clear hg
                  have hx : Below wa.heap.size wa (wa.alloc (.cells #[.string m.name, .int .i64 m.rating] 56)) := (Below.refl _ _).alloc (Nat.le_refl _) _
                  have KO := Lib.hid (own_alloc HO.out (.cells #[.string m.name, .int .i64 m.rating] 56))
                  have KN := Lib.hid (news2 (cell_new0 wa #[.string m.name, .int .i64 m.rating] 56 (i := 0) rfl) (cell_new0 wa #[.string m.name, .int .i64 m.rating] 56 (i := 1) rfl))
                  go_wp2_with (at_builtin; go_must (refine wpList_append_lies _ rfl (.tmp 48) (.tmp 50) 28 rfl (w2.heap.size + 1) 56 i0 (.agg #[.string ⟨#[]⟩, .int .i64 0]) 2 24 Try.underlying28 hi0 hz0 hz1 hz2 rfl (by decide) (.slice ak L.length ck) L.length (L.flatMap Mem.enc) rfl KO.out ⟨wa.heap.size, 0, none⟩ 1 1 (Mem.enc m) rfl rfl KN.out (mem_one' m) (by decide) ?a1 ?a2 ?a3 _ rfl ?_))
                  case a1 => unfold maxLen; omega
                  case a2 => omega
                  case a3 => simp; omega
                  intro g4 cap4 w4 ho4 hg4 hat4 hlt4
                  replace c1 := app_cell hx KO.out hg4 c1 (by omega)
                  replace q0 := app_cell hx KO.out hg4 q0 (by omega)
                  replace q1 := app_cell hx KO.out hg4 q1 (by omega)
                  replace e0 := app_cell hx KO.out hg4 e0 (by omega)
                  replace e1 := app_cell hx KO.out hg4 e1 (by omega)
                  replace f1 := app_frozen hx KO.out hg4 f1 d1 (by omega)
                  replace d1 := app_cell hx KO.out hg4 d1 (by omega)
                  replace f6 := app_frozen hx KO.out hg4 f6 c6 (by omega)
                  replace c6 := app_cell hx KO.out hg4 c6 (by omega)
                  replace hb := app_below hx KO.out hg4 hb (by omega)
                  replace hB : w2.heap.size + 1 ≤ w4.heap.size := Nat.le_trans (Nat.le_trans hB hx.size) hg4.size
                  have hlen : (L ++ [m]).length = L.length + 1 := by simp
                  have ho4' := own_as ho4 (flat_snoc Mem.enc L m)
                  rw [← hlen] at ho4'
                  have H4 := Lib.hid ho4'
                  clear ho4 ho4' hg4 hat4 hlt4 KO KN HO hx
                  go_wp2_with fail
                  rw [← hlen]
                  have HLEN4 := Lib.hid hlen
                  clear hlen
                  have c6' : (w4.setCell ⟨w2.heap.size, 0, none⟩ (.slice (some ⟨g4, 0, none⟩) (L ++ [m]).length cap4)).cell? ⟨w2.heap.size, 0, none⟩ = some (.slice (some ⟨g4, 0, none⟩) (L ++ [m]).length cap4) := World.cell?_setCell_same _ _ _ c6
                  replace f6 : (w4.setCell ⟨w2.heap.size, 0, none⟩ (.slice (some ⟨g4, 0, none⟩) (L ++ [m]).length cap4)).frozen? ⟨w2.heap.size, 0, none⟩ = false := by rw [World.frozen?_setCell]; exact f6
                  replace c6 := c6'
                  clear c6'
                  replace c1 := cell_far c1 (show w.heap.size ≠ w2.heap.size by omega) (.slice (some ⟨g4, 0, none⟩) (L ++ [m]).length cap4)
                  replace q0 := cell_far q0 (show w.heap.size + 1 ≠ w2.heap.size by omega) (.slice (some ⟨g4, 0, none⟩) (L ++ [m]).length cap4)
                  replace q1 := cell_far q1 (show w.heap.size + 1 ≠ w2.heap.size by omega) (.slice (some ⟨g4, 0, none⟩) (L ++ [m]).length cap4)
                  replace e0 := cell_far e0 (show mb ≠ w2.heap.size by omega) (.slice (some ⟨g4, 0, none⟩) (L ++ [m]).length cap4)
                  replace e1 := cell_far e1 (show mb ≠ w2.heap.size by omega) (.slice (some ⟨g4, 0, none⟩) (L ++ [m]).length cap4)
                  replace d1 := cell_far d1 (show w.heap.size + 1 + 1 ≠ w2.heap.size by omega) (.slice (some ⟨g4, 0, none⟩) (L ++ [m]).length cap4)
                  replace f1 : (w4.setCell ⟨w2.heap.size, 0, none⟩ (.slice (some ⟨g4, 0, none⟩) (L ++ [m]).length cap4)).frozen? ⟨w.heap.size + 1 + 1, 0, none⟩ = false := by rw [World.frozen?_setCell]; exact f1
                  replace H4 := Lib.hid (own_setCell (b := w2.heap.size) (o := 0) H4.out (by omega) (.slice (some ⟨g4, 0, none⟩) (L ++ [m]).length cap4))
                  replace hb := hb.setCell (p := ⟨w2.heap.size, 0, none⟩) (by simp only; omega) (.slice (some ⟨g4, 0, none⟩) (L ++ [m]).length cap4)
                  replace hB : w2.heap.size + 1 ≤ (w4.setCell ⟨w2.heap.size, 0, none⟩ (.slice (some ⟨g4, 0, none⟩) (L ++ [m]).length cap4)).heap.size := by simp [World.setCell]; omega
                  generalize w4.setCell ⟨w2.heap.size, 0, none⟩ (.slice (some ⟨g4, 0, none⟩) (L ++ [m]).length cap4) = wb at *
                  have hL2 : (L ++ [m]).length ≤ k + 1 := by rw [HLEN4.out]; omega
                  generalize L ++ [m] = L2 at *
                  have hk : Below wb.heap.size wb wb.drew := (Below.refl _ _).drew
                  have k_c1 := cell_kept c1 hk
                  have k_e0 := cell_kept e0 hk
                  have k_e1 := cell_kept e1 hk
                  have k_c6 := cell_kept c6 hk
                  have k_f6 := frozen_kept f6 c6 hk
                  have k_o := Lib.hid (own_below H4.out hk)
                  have l6 : w2.heap.size < wb.heap.size := block_lt c6
                  have n6 := World.new_ne wb.drew _ k_c6
                  go_region_law
                    (((first | refine step_new_drew ?_ | refine step_new ?_); intro wz hxz hnz hoz; have nb0 : World.cell? wz ⟨_, 0, none⟩ = some (.string ms[k].name) := hnz.1 0 _ rfl; have nb1 : World.cell? wz ⟨_, 1, none⟩ = some (.int .i64 ms[k].rating) := hnz.1 1 _ rfl; replace k_f6 := frozen_kept k_f6 k_c6 hxz; replace k_c6 := cell_kept k_c6 hxz; replace k_c1 := cell_kept k_c1 hxz; replace k_e0 := cell_kept k_e0 hxz; replace k_e1 := cell_kept k_e1 hxz; replace k_o := Lib.hid (own_below k_o.out hxz); replace hk := hk.trans (hxz.mono hk.size); clear hxz hnz hoz; refine step_append_lies _ ?_ (.tmp 54) (.tmp 60) 28 ?_ (w2.heap.size + 1) 56 i0 (.agg #[.string ⟨#[]⟩, .int .i64 0]) 2 24 Try.underlying28 hi0 hz0 hz1 hz2 rfl (by decide) (.slice (some ⟨g4, 0, none⟩) L2.length cap4) L2.length (L2.flatMap Mem.enc) ?_ k_o.out ⟨_, 0, none⟩ 1 1 (Mem.enc ms[k]) ?_ rfl (news2 nb0 nb1) (mem_one' ms[k]) (by decide) ?_ ?_ (Nat.le_trans hB hk.size) _ rfl ?_; (all_goals (first | rfl | (unfold maxLen; omega) | omega | skip)); intro g5 cap5 w5 ho5 hg5 hat5 hlt5; replace k_f6 := (hg5.frozen_far _ (block_lt k_c6) (ne_early k_o.out (Nat.lt_succ_self _))).trans k_f6; replace k_c6 := hg5.cell k_c6 (ne_early k_o.out (Nat.lt_succ_self _))))
                  all_goals
                    replace c1 := app_cell hk k_o.out hg5 c1 (by omega)
                    replace q0 := app_cell hk k_o.out hg5 q0 (by omega)
                    replace q1 := app_cell hk k_o.out hg5 q1 (by omega)
                    replace f1 := app_frozen hk k_o.out hg5 f1 d1 (by omega)
                    replace d1 := app_cell hk k_o.out hg5 d1 (by omega)
                    replace hb := app_below hk k_o.out hg5 hb (by omega)
                    have HLEN := Lib.hid (show (L2 ++ [ms[k]]).length = L2.length + 1 by simp)
                    have hB5 : w2.heap.size + 1 ≤ w5.heap.size := Nat.le_trans (Nat.le_trans hB hk.size) hg5.size
                    have H5 := Lib.hid (own_as ho5 (flat_snoc Mem.enc L2 ms[k]))
                    clear ho5 hg5 hat5 hlt5 k_o hk n6 l6 k_c1 k_e0 k_e1 nb0 nb1 e0 e1
                    go_wp2
                    go_roundw
                    case rel =>
                      refine ⟨k + 1, true, L2 ++ [ms[k]], rfl, by go_num, by omega, Lib.hid (by rw [HLEN.out]; simp; omega), Lib.hid (HN.out.trans HI.out), ⟨some ⟨g5, 0, none⟩, cap5, ?_, ?_⟩, ?_, cell_far c1 (by omega) _, cell_far q0 (by omega) _, cell_far q1 (by omega) _, cell_far d1 (by omega) _, ?_, hb.setCell (by simp only; omega) _, by simp [World.setCell]; omega⟩
                      · rw [HLEN.out]
                        exact World.cell?_setCell_same _ _ _ k_c6
                      · rw [HLEN.out]
                        exact Lib.hid (own_setCell H5.out (by omega) _)
                      · rw [World.frozen?_setCell]; exact k_f6
                      · rw [World.frozen?_setCell]; exact f1
                    case measure => simp [intOf]; omega
            · have HE := Lib.hid (HI.out.symm.trans (addRest_end (m := m) hlt d L))
              cases d with
              | true =>
                have HE2 : Hid (addMem ms m = L) := Lib.hid (by have := HE.out; simpa using this)
                clear HE HL HI
                have hFin := World.cell?_setCell_same wr ⟨w.heap.size + 1 + 1, 0, none⟩ (.slice ak L.length ck) d1
                go_wp2
                refine bodyPost_ret (v := .tuple #[.agg #[.slice ak L.length ck], .int .i64 0]) (by simp [results, Try.results30, go_sem, hFin]) rfl ?_
                rw [HR.out]
                refine ⟨ak, ck, by simp only [HE2.out], ?_, hb.setCell (by simp; omega) _⟩
                simp only [HE2.out]
                exact own_mono (own_setCell HO.out (by omega) _) (by omega)
              | false =>
                have HE2 : Hid (addMem ms m = L ++ [m]) := Lib.hid (by have := HE.out; simpa using this)
                have hL : L.length ≤ k := by simpa using HL.out
                clear HE HL HI
                generalize wr = wa at *
                have hx : Below wa.heap.size wa (wa.alloc (.cells #[.string m.name, .int .i64 m.rating] 56)) := (Below.refl _ _).alloc (Nat.le_refl _) _
                have KO := Lib.hid (own_alloc HO.out (.cells #[.string m.name, .int .i64 m.rating] 56))
                have KN := Lib.hid (news2 (cell_new0 wa #[.string m.name, .int .i64 m.rating] 56 (i := 0) rfl) (cell_new0 wa #[.string m.name, .int .i64 m.rating] 56 (i := 1) rfl))
                go_wp2_with (at_builtin; go_must (refine wpList_append_lies _ rfl (.tmp 66) (.tmp 68) 28 rfl (w2.heap.size + 1) 56 i0 (.agg #[.string ⟨#[]⟩, .int .i64 0]) 2 24 Try.underlying28 hi0 hz0 hz1 hz2 rfl (by decide) (.slice ak L.length ck) L.length (L.flatMap Mem.enc) rfl KO.out ⟨wa.heap.size, 0, none⟩ 1 1 (Mem.enc m) rfl rfl KN.out (mem_one' m) (by decide) ?a1 ?a2 ?a3 _ rfl ?_))
                case a1 => unfold maxLen; omega
                case a2 => omega
                case a3 => simp; omega
                intro g4 cap4 w4 ho4 hg4 hat4 hlt4
                replace f1 := app_frozen hx KO.out hg4 f1 d1 (by omega)
                replace d1 := app_cell hx KO.out hg4 d1 (by omega)
                replace f6 := app_frozen hx KO.out hg4 f6 c6 (by omega)
                replace c6 := app_cell hx KO.out hg4 c6 (by omega)
                replace hb := app_below hx KO.out hg4 hb (by omega)
                have H4 := Lib.hid (own_as ho4 (flat_snoc Mem.enc L m))
                clear ho4 hg4 hat4 hlt4 KO KN HO hx
                go_wp2_with fail
                replace d1 := cell_far d1 (show w.heap.size + 1 + 1 ≠ w2.heap.size by omega) (.slice (some ⟨g4, 0, none⟩) (L.length + 1) cap4)
                have hFin := World.cell?_setCell_same _ ⟨w.heap.size + 1 + 1, 0, none⟩ (.slice (some ⟨g4, 0, none⟩) (L.length + 1) cap4) d1
                refine bodyPost_ret (v := .tuple #[.agg #[.slice (some ⟨g4, 0, none⟩) (L.length + 1) cap4], .int .i64 0]) (by simp [results, Try.results30, go_sem, hFin]) rfl ?_
                rw [HR.out]
                have hlen : (addMem ms m).length = L.length + 1 := by rw [HE2.out]; simp
                refine ⟨some ⟨g4, 0, none⟩, cap4, by simp only [hlen], ?_, (hb.setCell (by simp; omega) _).setCell (by simp; omega) _⟩
                simp only [hlen]
                rw [HE2.out]
                exact own_mono (own_setCell (own_setCell H4.out (by omega) _) (by omega) _) (by omega)
theorem specAddMember_any (ms : List Mem) (m : Mem) (ad : Addr) (cap : Nat) (w : World) (hm : SliceAt w 2 Mem.enc (some ad) ms) (hl : ms.length ≤ 1048576) (hf : MemsFit ms) (hfm : m.fit) :
    Calls Try.prog 30 #[.agg #[.slice (some ad) ms.length cap], .agg #[.string m.name, .int .i64 m.rating]] w (ClubCode w (addMember ms m)) :=
  specAddMember_anyN ms m (some ad) cap w hm (by simp) hl hf hfm

end Go.Proofs.Ytpodkgfapbcmlaa
