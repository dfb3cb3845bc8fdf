/- Contract: the program's AddMember. (IN PROGRESS: has gaps.) -/
import Derived.Test.YtpodkgfapbcmlaaAddPost
import Derived.Test.YtpodkgfapbcmlaaSst
import Derived.Test.YtpodkgfapbcmlaaRate
import Derived.Test.YtpodkgfapbcmlaaBox
namespace Go.Proofs.Ytpodkgfapbcmlaa
open Go.ChangeShapes Go.WideShapes Go.ChangeAt Go.RowKit Go.Sort

theorem mem_one (m : Mem) : ∀ u ∈ Mem.enc m, u.oneCell' = true := by
  intro u hu
  simp only [Mem.enc, List.mem_cons, List.not_mem_nil, or_false] at hu
  rcases hu with rfl | rfl <;> rfl
set_option maxRecDepth 100000 in
set_option maxHeartbeats 4000000 in
theorem AddMember_anyN (ms : List Mem) (m : Mem) (aq : Option Addr) (cap : Nat) (w : World) (hm : SliceAt w 2 Mem.enc aq ms) (hn : aq = none → ms = [] ∧ cap = 0) (hl : ms.length ≤ 1048576) (hf : MemsFit ms) (hfm : m.fit) :
    Calls Try.prog 32 #[.agg #[.slice aq ms.length cap], .agg #[.string m.name, .int .i64 m.rating]] w (ClubCode w (addMember ms m)) := by
  have HM := Lib.hid hm; clear hm
  have HNN := Lib.hid hn; clear hn
  obtain ⟨w1, hw1⟩ : ∃ w1, w1 = ((w.alloc (.cells #[.slice aq ms.length cap] 30)).alloc (.cells #[.string m.name, .int .i64 m.rating] 56)).alloc (.cells #[.slice none 0 0] 30) := ⟨_, rfl⟩
  have hb : Below w.heap.size w w1 := by rw [hw1]; exact (((Below.refl _ _).alloc (Nat.le_refl _) _).alloc (by simp) _).alloc (by simp; omega) _
  have c1 : w1.cell? ⟨w.heap.size, 0, none⟩ = some (.slice aq ms.length cap) := by rw [hw1]; exact cell_alloc (cell_alloc (cell_new0 w _ _ rfl) _) _
  have q0 : w1.cell? ⟨w.heap.size + 1, 0, none⟩ = some (.string m.name) := by
    rw [hw1]
    have := cell_alloc (cell_new0 (w.alloc (.cells #[.slice aq ms.length cap] 30)) #[.string m.name, .int .i64 m.rating] 56 (i := 0) (v := .string m.name) rfl) (.cells #[.slice none 0 0] 30)
    simpa using this
  have q1 : w1.cell? ⟨w.heap.size + 1, 1, none⟩ = some (.int .i64 m.rating) := by
    rw [hw1]
    have := cell_alloc (cell_new0 (w.alloc (.cells #[.slice aq ms.length cap] 30)) #[.string m.name, .int .i64 m.rating] 56 (i := 1) (v := .int .i64 m.rating) rfl) (.cells #[.slice none 0 0] 30)
    simpa using this
  have d1 : w1.cell? ⟨w.heap.size + 1 + 1, 0, none⟩ = some (.slice none 0 0) := by
    rw [hw1]
    have := cell_new0 ((w.alloc (.cells #[.slice aq ms.length cap] 30)).alloc (.cells #[.string m.name, .int .i64 m.rating] 56)) #[.slice none 0 0] 30 (i := 0) (v := .slice none 0 0) rfl
    simpa using this
  have f1 : w1.frozen? ⟨w.heap.size + 1 + 1, 0, none⟩ = false := by rw [hw1]; simp [go_sem]
  have HW1 := Lib.hid hw1; clear hw1
  cases hco : clubOk ms with
  | false =>
    have HR := Lib.hid (addMember_bad (m := m) (ms := ms) (by rw [hco]; rfl))
    go_enter Try.func32, Try.ntmps32
    go_wp2_with fail
    rw [← HW1.out]
    refine (ValidClub_any ms aq cap _ (HM.out.kept hb) (by omega) hf).mono ?_
    rintro e w2 ⟨rfl, hd⟩
    rw [hco]
    replace c1 := cell_kept c1 hd
    replace q0 := cell_kept q0 hd
    replace q1 := cell_kept q1 hd
    replace f1 := frozen_kept f1 d1 hd
    replace d1 := cell_kept d1 hd
    replace hb := hb.trans (hd.mono hb.size)
    clear hd
    have hFin : (w2.setCell ⟨w.heap.size + 1 + 1, 0, none⟩ (.slice none 0 0)).cell? ⟨w.heap.size + 1 + 1, 0, none⟩ = some (.slice none 0 0) := by go_cell
    go_wp2
    refine bodyPost_ret (v := .tuple #[.agg #[.slice none 0 0], .int .i64 1]) (by simp [results, Try.results32, go_sem, hFin]) rfl ?_
    rw [HR.out]
    exact ⟨none, 0, rfl, by simpa using World.ownsRow_nil _ w.heap.size 56 2, hb.setCell (by simp; omega) _⟩
  | true =>
    have HCO := Lib.hid hco
    cases hmo : memOk m with
    | false =>
      have HMO := Lib.hid hmo
      have HR := Lib.hid (addMember_bad (m := m) (ms := ms) (by rw [hco, hmo]; rfl))
      clear hco hmo
      go_enter Try.func32, Try.ntmps32
      go_wp2_with fail
      rw [← HW1.out]
      refine (ValidClub_any ms aq cap _ (HM.out.kept hb) (by omega) hf).mono ?_
      rintro e w2 ⟨rfl, hd⟩
      rw [HCO.out]
      replace c1 := cell_kept c1 hd
      replace q0 := cell_kept q0 hd
      replace q1 := cell_kept q1 hd
      replace f1 := frozen_kept f1 d1 hd
      replace d1 := cell_kept d1 hd
      replace hb := hb.trans (hd.mono hb.size)
      clear hd
      go_wp2_with fail
      refine (validMember_any m _ hfm).mono ?_
      rintro e w3 ⟨rfl, hd⟩
      rw [HMO.out]
      replace c1 := cell_kept c1 hd
      replace q0 := cell_kept q0 hd
      replace q1 := cell_kept q1 hd
      replace f1 := frozen_kept f1 d1 hd
      replace d1 := cell_kept d1 hd
      replace hb := hb.trans (hd.mono hb.size)
      clear hd
      have hFin : (w3.setCell ⟨w.heap.size + 1 + 1, 0, none⟩ (.slice none 0 0)).cell? ⟨w.heap.size + 1 + 1, 0, none⟩ = some (.slice none 0 0) := by go_cell
      go_wp2
      refine bodyPost_ret (v := .tuple #[.agg #[.slice none 0 0], .int .i64 1]) (by simp [results, Try.results32, go_sem, hFin]) rfl ?_
      rw [HR.out]
      exact ⟨none, 0, rfl, by simpa using World.ownsRow_nil _ w.heap.size 56 2, hb.setCell (by simp; omega) _⟩
    | true =>
      have HMO := Lib.hid hmo
      have hall : (clubOk ms && memOk m) = true := by rw [hco, hmo]; rfl
      clear hco hmo
      by_cases hfd : 0 ≤ findMem m.name ms
      · have HR := Lib.hid (addMember_found hall hfd)
        clear hall
        go_enter Try.func32, Try.ntmps32
        go_wp2_with fail
        rw [← HW1.out]
        refine (ValidClub_any ms aq cap _ (HM.out.kept hb) (by omega) hf).mono ?_
        rintro e w2 ⟨rfl, hd⟩
        rw [HCO.out]
        replace c1 := cell_kept c1 hd
        replace q0 := cell_kept q0 hd
        replace q1 := cell_kept q1 hd
        replace f1 := frozen_kept f1 d1 hd
        replace d1 := cell_kept d1 hd
        replace hb := hb.trans (hd.mono hb.size)
        clear hd
        go_wp2_with fail
        refine (validMember_any m _ hfm).mono ?_
        rintro e w3 ⟨rfl, hd⟩
        rw [HMO.out]
        replace c1 := cell_kept c1 hd
        replace q0 := cell_kept q0 hd
        replace q1 := cell_kept q1 hd
        replace f1 := frozen_kept f1 d1 hd
        replace d1 := cell_kept d1 hd
        replace hb := hb.trans (hd.mono hb.size)
        clear hd
        go_wp2_with fail
        refine (member_any ms m.name aq cap _ (HM.out.kept hb) (by omega)).mono ?_
        rintro e w4 ⟨rfl, hd⟩
        replace c1 := cell_kept c1 hd
        replace q0 := cell_kept q0 hd
        replace q1 := cell_kept q1 hd
        replace f1 := frozen_kept f1 d1 hd
        replace d1 := cell_kept d1 hd
        replace hb := hb.trans (hd.mono hb.size)
        clear hd
        generalize findMem m.name ms = fd at *
        have hFin : (w4.setCell ⟨w.heap.size + 1 + 1, 0, none⟩ (.slice none 0 0)).cell? ⟨w.heap.size + 1 + 1, 0, none⟩ = some (.slice none 0 0) := by go_cell
        go_wp2
        refine bodyPost_ret (v := .tuple #[.agg #[.slice none 0 0], .int .i64 4]) (by simp [results, Try.results32, go_sem, hFin]) rfl ?_
        rw [HR.out]
        exact ⟨none, 0, rfl, by simpa using World.ownsRow_nil _ w.heap.size 56 2, hb.setCell (by simp; omega) _⟩
      · by_cases h12 : 12 ≤ ms.length
        · have HR := Lib.hid (addMember_full hall hfd h12)
          have he12 : (ms.length : Int) = 12 := by
            have := HCO.out
            simp only [clubOk, Bool.and_eq_true, decide_eq_true_eq] at this
            omega
          clear hall
          go_enter Try.func32, Try.ntmps32
          go_wp2_with fail
          rw [← HW1.out]
          refine (ValidClub_any ms aq cap _ (HM.out.kept hb) (by omega) hf).mono ?_
          rintro e w2 ⟨rfl, hd⟩
          rw [HCO.out]
          replace c1 := cell_kept c1 hd
          replace q0 := cell_kept q0 hd
          replace q1 := cell_kept q1 hd
          replace f1 := frozen_kept f1 d1 hd
          replace d1 := cell_kept d1 hd
          replace hb := hb.trans (hd.mono hb.size)
          clear hd
          go_wp2_with fail
          refine (validMember_any m _ hfm).mono ?_
          rintro e w3 ⟨rfl, hd⟩
          rw [HMO.out]
          replace c1 := cell_kept c1 hd
          replace q0 := cell_kept q0 hd
          replace q1 := cell_kept q1 hd
          replace f1 := frozen_kept f1 d1 hd
          replace d1 := cell_kept d1 hd
          replace hb := hb.trans (hd.mono hb.size)
          clear hd
          go_wp2_with fail
          refine (member_any ms m.name aq cap _ (HM.out.kept hb) (by omega)).mono ?_
          rintro e w4 ⟨rfl, hd⟩
          replace c1 := cell_kept c1 hd
          replace q0 := cell_kept q0 hd
          replace q1 := cell_kept q1 hd
          replace f1 := frozen_kept f1 d1 hd
          replace d1 := cell_kept d1 hd
          replace hb := hb.trans (hd.mono hb.size)
          clear hd
          generalize findMem m.name ms = fd at *
          have hFin : (w4.setCell ⟨w.heap.size + 1 + 1, 0, none⟩ (.slice none 0 0)).cell? ⟨w.heap.size + 1 + 1, 0, none⟩ = some (.slice none 0 0) := by go_cell
          go_wp2
          refine bodyPost_ret (v := .tuple #[.agg #[.slice none 0 0], .int .i64 5]) (by simp [results, Try.results32, go_sem, hFin]) rfl ?_
          rw [HR.out]
          exact ⟨none, 0, rfl, by simpa using World.ownsRow_nil _ w.heap.size 56 2, hb.setCell (by simp; omega) _⟩
        · have HR := Lib.hid (addMember_ok hall hfd h12)
          have hne12 : ((ms.length : Int) == 12) = false := by simp; omega
          have HNE := Lib.hid (findMem_none (by omega : findMem m.name ms < 0))
          clear hall
          go_enter Try.func32, Try.ntmps32
          go_wp2_with fail
          rw [← HW1.out]
          refine (ValidClub_any ms aq cap _ (HM.out.kept hb) (by omega) hf).mono ?_
          rintro e w2 ⟨rfl, hd⟩
          rw [HCO.out]
          replace c1 := cell_kept c1 hd
          replace q0 := cell_kept q0 hd
          replace q1 := cell_kept q1 hd
          replace f1 := frozen_kept f1 d1 hd
          replace d1 := cell_kept d1 hd
          replace hb := hb.trans (hd.mono hb.size)
          clear hd
          go_wp2_with fail
          refine (validMember_any m _ hfm).mono ?_
          rintro e w3 ⟨rfl, hd⟩
          rw [HMO.out]
          replace c1 := cell_kept c1 hd
          replace q0 := cell_kept q0 hd
          replace q1 := cell_kept q1 hd
          replace f1 := frozen_kept f1 d1 hd
          replace d1 := cell_kept d1 hd
          replace hb := hb.trans (hd.mono hb.size)
          clear hd
          go_wp2_with fail
          refine (member_any ms m.name aq cap _ (HM.out.kept hb) (by omega)).mono ?_
          rintro e w4 ⟨rfl, hd⟩
          replace c1 := cell_kept c1 hd
          replace q0 := cell_kept q0 hd
          replace q1 := cell_kept q1 hd
          replace f1 := frozen_kept f1 d1 hd
          replace d1 := cell_kept d1 hd
          replace hb := hb.trans (hd.mono hb.size)
          clear hd
          generalize findMem m.name ms = fd at *
          go_upto_region 7 with fail
          have SA := Lib.hid (HM.out.kept hb)
          have l1 := block_lt c1
          have l2 := block_lt q0
          obtain ⟨i0, hi0, hz0, hz1, hz2⟩ := info_parts infoMember
          go_cut [6] (fun s6 wx => Boxed w4 wx 56 2 s6 (ms.length + 1) ((ms ++ [m]).flatMap Mem.enc))
          case first =>
            have hk : Below w4.heap.size w4 w4.drew := (Below.refl _ _).drew
            have k_c1 : w4.drew.cell? ⟨w.heap.size, 0, none⟩ = some (.slice aq ms.length cap) := c1
            have k_q0 : w4.drew.cell? ⟨w.heap.size + 1, 0, none⟩ = some (.string m.name) := q0
            have k_q1 : w4.drew.cell? ⟨w.heap.size + 1, 1, none⟩ = some (.int .i64 m.rating) := q1
            go_region_held3 (fun w' => w'.cell? ⟨w.heap.size, 0, none⟩ = some (.slice aq ms.length cap) ∧ w'.cell? ⟨w.heap.size + 1, 0, none⟩ = some (.string m.name) ∧ w'.cell? ⟨w.heap.size + 1, 1, none⟩ = some (.int .i64 m.rating))
              (first | exact ⟨k_c1, k_q0, k_q1⟩ | exact ⟨cell_alloc k_c1 _, cell_alloc k_q0 _, cell_alloc k_q1 _⟩ | exact ⟨cell_alloc (cell_alloc k_c1 _) _, cell_alloc (cell_alloc k_q0 _) _, cell_alloc (cell_alloc k_q1 _) _⟩ | exact ⟨cell_far k_c1 (by omega) _, cell_far k_q0 (by omega) _, cell_far k_q1 (by omega) _⟩ | exact ⟨cell_newfar k_c1 _ _, cell_newfar k_q0 _ _, cell_newfar k_q1 _ _⟩)
              (first
                  | (have tk := HC.out; clear tk; (try ((first | refine step_new2 ?_); intro wy hxz hnz hoz; (first | (have nb1 : World.cell? wy ⟨_, 1, none⟩ = some (.int .i64 m.rating) := hnz.1 1 _ rfl; have nb0 : World.cell? wy ⟨_, 0, none⟩ = some (.string m.name) := hnz.1 0 _ rfl; have hgb := hk.size) | (have hcz : World.cell? wy ⟨_, 0, none⟩ = some (.slice none 0 0) := hnz.1 0 _ rfl; have hfz := hnz.2.1 0; (try have hne := ne_late HC.out); have hgz := hk.size)); (try replace HC := Lib.hid (own_below HC.out hxz)); (try replace hfz := frozen_kept hfz hcz hxz); (try replace hcz := cell_kept hcz hxz); (try replace nb0 := cell_kept nb0 hxz); (try replace nb1 := cell_kept nb1 hxz); replace hk := hk.trans (hxz.mono hk.size); replace k_c1 := cell_kept k_c1 hxz; replace k_q0 := cell_kept k_q0 hxz; replace k_q1 := cell_kept k_q1 hxz; have hsz := hnz.2.2; clear hxz; clear hnz hoz)); (try ((first | refine step_new ?_); intro wz hxz hnz hoz; (first | (have nb1 : World.cell? wz ⟨_, 1, none⟩ = some (.int .i64 m.rating) := hnz.1 1 _ rfl; have nb0 : World.cell? wz ⟨_, 0, none⟩ = some (.string m.name) := hnz.1 0 _ rfl; have hgb := hk.size) | (have hcz : World.cell? wz ⟨_, 0, none⟩ = some (.slice none 0 0) := hnz.1 0 _ rfl; have hfz := hnz.2.1 0; (try have hne := ne_late HC.out); have hgz := hk.size)); (try rw [hsz] at hcz hfz hne hgz); (try rw [hsz] at hcz hfz hgz); (try rw [hsz] at nb0 nb1 hgb); (try replace HC := Lib.hid (own_below HC.out hxz)); (try replace hfz := frozen_kept hfz hcz hxz); (try replace hcz := cell_kept hcz hxz); (try replace nb0 := cell_kept nb0 hxz); (try replace nb1 := cell_kept nb1 hxz); replace hk := hk.trans (hxz.mono hk.size); replace k_c1 := cell_kept k_c1 hxz; replace k_q0 := cell_kept k_q0 hxz; replace k_q1 := cell_kept k_q1 hxz; clear hxz; clear hnz hoz)); (try clear hsz); refine step_append_lies _ ?_ (.tmp 32) (.tmp 34) 28 ?_ w4.heap.size 56 i0 (.agg #[.string ⟨#[]⟩, .int .i64 0]) 2 24 Try.underlying28 hi0 hz0 hz1 hz2 rfl (by decide) (.slice ac ms.length capc) ms.length (ms.flatMap Mem.enc) ?_ HC.out ⟨_, 0, none⟩ 1 1 (Mem.enc m) ?_ rfl (news2 nb0 nb1) (mem_one m) (by decide) ?_ ?_ hk.size _ rfl ?_; (all_goals (first | rfl | (unfold maxLen; omega) | omega | skip)); intro g5 cap5 w5 ho5 hg5 hat5 hlt5; (try have hGl := block_lt hcz); (try have hne5 := ne_behind (n := ms.length + 1) (cap := cap5) hat5 hne hGl); have hno : ∀ b, b < w4.heap.size → some b ≠ (Value.slice ac ms.length capc).ownBlock := fun b hb => ne_early HC.out hb; replace k_c1 := hg5.cell k_c1 (hno _ l1); replace k_q0 := hg5.cell k_q0 (hno _ l2); replace k_q1 := hg5.cell k_q1 (hno _ l2); (try replace hfz := (hg5.frozen_far _ (block_lt hcz) hne).trans hfz); (try replace hcz := hg5.cell hcz hne); replace hk := hk.grown hg5 hk.size (fun k hk' => (HC.out.lt k hk').1); have H5 := Lib.hid ho5; clear ho5 hg5 hat5 hno HC nb0 nb1)
                  | (go_at_call 67; (try ((first | refine calls_new2_drew ?_ | refine calls_new2 ?_); intro wy hxz hnz hoz; (first | (have nb1 : World.cell? wy ⟨_, 1, none⟩ = some (.int .i64 m.rating) := hnz.1 1 _ rfl; have nb0 : World.cell? wy ⟨_, 0, none⟩ = some (.string m.name) := hnz.1 0 _ rfl; have hgb := hk.size) | (have hcz : World.cell? wy ⟨_, 0, none⟩ = some (.slice none 0 0) := hnz.1 0 _ rfl; have hfz := hnz.2.1 0; (try have hne := ne_late HC.out); have hgz := hk.size)); (try replace HC := Lib.hid (own_below HC.out hxz)); (try replace hfz := frozen_kept hfz hcz hxz); (try replace hcz := cell_kept hcz hxz); (try replace nb0 := cell_kept nb0 hxz); (try replace nb1 := cell_kept nb1 hxz); replace hk := hk.trans (hxz.mono hk.size); replace k_c1 := cell_kept k_c1 hxz; replace k_q0 := cell_kept k_q0 hxz; replace k_q1 := cell_kept k_q1 hxz; have hsz := hnz.2.2; clear hxz; clear hnz hoz)); (try ((first | refine calls_new_drew ?_ | refine calls_new ?_); intro wz hxz hnz hoz; (first | (have nb1 : World.cell? wz ⟨_, 1, none⟩ = some (.int .i64 m.rating) := hnz.1 1 _ rfl; have nb0 : World.cell? wz ⟨_, 0, none⟩ = some (.string m.name) := hnz.1 0 _ rfl; have hgb := hk.size) | (have hcz : World.cell? wz ⟨_, 0, none⟩ = some (.slice none 0 0) := hnz.1 0 _ rfl; have hfz := hnz.2.1 0; (try have hne := ne_late HC.out); have hgz := hk.size)); (try rw [hsz] at hcz hfz hne hgz); (try rw [hsz] at hcz hfz hgz); (try rw [hsz] at nb0 nb1 hgb); (try replace HC := Lib.hid (own_below HC.out hxz)); (try replace hfz := frozen_kept hfz hcz hxz); (try replace hcz := cell_kept hcz hxz); (try replace nb0 := cell_kept nb0 hxz); (try replace nb1 := cell_kept nb1 hxz); replace hk := hk.trans (hxz.mono hk.size); replace k_c1 := cell_kept k_c1 hxz; replace k_q0 := cell_kept k_q0 hxz; replace k_q1 := cell_kept k_q1 hxz; clear hxz; clear hnz hoz)); (try clear hsz); (try have hGl := block_lt hcz); refine (cloneMem_any ms aq cap _ (SA.out.kept hk) hl (fun h => (HNN.out h).1)).mono ?_; rintro e wq ⟨ac, capc, rfl, hoq, hdq⟩; (try have hne := ne_early hoq hGl); have hoq2 := own_mono hoq hk.size; clear hoq; (try replace HC := Lib.hid (own_below HC.out hdq)); (try replace hfz := frozen_kept hfz hcz hdq); (try replace hcz := cell_kept hcz hdq); (try replace nb0 := cell_kept nb0 hdq); (try replace nb1 := cell_kept nb1 hdq); replace hk := hk.trans (hdq.mono hk.size); replace k_c1 := cell_kept k_c1 hdq; replace k_q0 := cell_kept k_q0 hdq; replace k_q1 := cell_kept k_q1 hdq; clear hdq; have HC := Lib.hid hoq2; clear hoq2))
            all_goals (go_wp2_with fail; go_meet; first | exact boxed_mid hk hcz hgz (own_as H5.out (flat_snoc Mem.enc ms m)) hne5 | exact boxed_late hk (own_as H5.out (flat_snoc Mem.enc ms m)) (Nat.le_refl _))
          case rest =>
            generalize wc = w5 at *
            obtain ⟨g6, a6, cap6, rfl, hg6, c6, O6, n6, hd⟩ := hcut
            have b4 := block_lt d1
            replace f1 := frozen_kept f1 d1 hd
            replace d1 := cell_kept d1 hd
            replace hb := hb.trans (hd.mono hb.size)
            clear hd c1 q0 q1 SA HM
            obtain ⟨blk, cap', hv, hB, hlt⟩ := O6.form (by omega)
            simp only [Value.slice.injEq, true_and] at hv
            obtain ⟨rfl, rfl⟩ := hv
            have n6' : g6 ≠ blk := fun h => n6 (by rw [h]; rfl)
            have hlen : (ms ++ [m]).length = ms.length + 1 := by simp
            have HS := Lib.hid (sortMembers_any (ms ++ [m]) 76 #[.pointer (some ⟨g6, 0, none⟩)] memLess w4.heap.size blk cap6 w5 (fun args w => callFunc_enter Try.func76 (by kernel_rfl) rfl args w)
              (addLessB g6 blk cap6 _ _ _ (by rw [hlen]; exact c6) n6') (by rw [hlen]; exact O6) (by omega) (by omega))
            rw [hlen, insSort_add HCO.out HNE.out] at HS
            clear hlen O6
            go_wp2_with fail
            refine HS.out.mono ?_
            rintro e w6 ⟨rfl, O7, hg7⟩
            have hne7 : ∀ b, b ≠ blk → some b ≠ (some blk : Option Nat) := fun b h e => h (Option.some.inj e)
            have b1 := block_lt d1
            replace f1 := (hg7.frozen_far _ b1 (hne7 _ (by simp only; omega))).trans f1
            replace d1 := hg7.cell d1 (hne7 _ (by simp only; omega))
            replace c6 := hg7.cell c6 (hne7 _ n6')
            replace hb := hb.grown hg7 hb.size (fun k hk => by have := hb.size; simp at hk; omega)
            have O8 := Lib.hid (own_mono O7 (show w.heap.size ≤ w4.heap.size by omega))
            clear O7 hg7 hne7 HS
            have n8 := hb.size
            go_wp2
            have hFin : (w6.setCell ⟨w.heap.size + 1 + 1, 0, none⟩ (.slice (some ⟨blk, 0, none⟩) (ms.length + 1) cap6)).cell? ⟨w.heap.size + 1 + 1, 0, none⟩ = some (.slice (some ⟨blk, 0, none⟩) (ms.length + 1) cap6) := World.cell?_setCell_same _ _ _ d1
            refine bodyPost_ret (v := .tuple #[.agg #[.slice (some ⟨blk, 0, none⟩) (ms.length + 1) cap6], .int .i64 0]) (by simp [results, Try.results32, go_sem, hFin]) rfl ?_
            rw [HR.out]
            refine ⟨some ⟨blk, 0, none⟩, cap6, by simp only [addMem_len], ?_, hb.setCell (by simp; omega) _⟩
            simp only [addMem_len]
            exact O8.out.kept (row := some (w.heap.size + 1 + 1)) (grown_setCell _ _ _) (.inr (by simp [Value.ownBlock]; omega))
theorem AddMember_any (ms : List Mem) (m : Mem) (ad : Addr) (cap : Nat) (w : World) (hm : SliceAt w 2 Mem.enc (some ad) ms) (hl : ms.length ≤ 1048576) (hf : MemsFit ms) (hfm : m.fit) :
    Calls Try.prog 32 #[.agg #[.slice (some ad) ms.length cap], .agg #[.string m.name, .int .i64 m.rating]] w (ClubCode w (addMember ms m)) :=
  AddMember_anyN ms m (some ad) cap w hm (by simp) hl hf hfm

end Go.Proofs.Ytpodkgfapbcmlaa
