/- Contract: impl.RateAll. -/
import Derived.Test.YtpodkgfapbcmlaaAll
namespace Go.Proofs.Ytpodkgfapbcmlaa
open Go.ChangeShapes Go.WideShapes Go.ChangeAt Go.RowKit Go.Sort

set_option maxRecDepth 100000 in
set_option maxHeartbeats 4000000 in
theorem RateAll_any (ms : List Mem) (rs : List Res) (ad : Addr) (ra : Option Addr) (cap rcap : Nat) (w : World) (hm : SliceAt w 2 Mem.enc (some ad) ms) (hr : SliceAt w 4 Res.enc ra rs) (hl : ms.length ≤ 1048576) (hlr : rs.length ≤ 1048576) (hf : MemsFit ms) (hfr : ResFit rs) :
    Calls Try.prog 26 #[.agg #[.slice (some ad) ms.length cap], .slice ra rs.length rcap] w (ClubCode w (rateAll ms rs)) := by
  have HM := Lib.hid hm; clear hm
  have HRS := Lib.hid hr; clear hr
  have HFR := Lib.hid hfr; clear hfr
  obtain ⟨i0, hi0, hz0, hz1, hz2⟩ := info_parts infoMember
  -- the world behind the boxes
  obtain ⟨w1, hw1⟩ : ∃ w1, w1 = (w.alloc (.cells #[.slice (some ad) ms.length cap] 30)).alloc (.cells #[.slice none 0 0] 30) := ⟨_, rfl⟩
  have hb : Below w.heap.size w w1 := by rw [hw1]; exact ((Below.refl _ _).alloc (Nat.le_refl _) _).alloc (by simp) _
  have c1 : w1.cell? ⟨w.heap.size, 0, none⟩ = some (.slice (some ad) ms.length cap) := by rw [hw1]; exact cell_alloc (cell_new0 w _ _ rfl) _
  have d1 : w1.cell? ⟨w.heap.size + 1, 0, none⟩ = some (.slice none 0 0) := by
    rw [hw1]
    simp
  have f1 : w1.frozen? ⟨w.heap.size + 1, 0, none⟩ = false := by rw [hw1]; simp [go_sem]
  have HW1 := Lib.hid hw1; clear hw1
  cases hcode : (codeOf ms rs == 0) with
  | false =>
    have hcd : codeOf ms rs ≠ 0 := by simpa using hcode
    have HR := Lib.hid (rateAll_bad hcd)
    have HCN := Lib.hid hcd
    clear hcode hcd hi0 hz0 hz1 hz2
    go_enter Try.func26, Try.ntmps26
    go_wp2_with fail
    rw [← HW1.out]
    refine (resultsCode_any ms rs (some ad) ra cap rcap w1 (HM.out.kept hb) (HRS.out.kept hb) hl hlr hf HFR.out).mono ?_
    rintro e w3 ⟨rfl, hd⟩
    replace c1 := cell_kept c1 hd
    replace f1 := frozen_kept f1 d1 hd
    replace d1 := cell_kept d1 hd
    replace hb := hb.trans (hd.mono hb.size)
    clear hd
    generalize hcg : codeOf ms rs = code at *
    have hcn := HCN.out
    clear hcg
    have hFin : (w3.setCell ⟨w.heap.size + 1, 0, none⟩ (.slice none 0 0)).cell? ⟨w.heap.size + 1, 0, none⟩ = some (.slice none 0 0) := by go_cell
    go_wp2
    refine bodyPost_ret (v := .tuple #[.agg #[.slice none 0 0], .int .i64 code]) (by simp [results, Try.results26, go_sem, hFin]) rfl ?_
    rw [HR.out]
    exact ⟨none, 0, rfl, by simpa using World.ownsRow_nil _ w.heap.size 56 2, hb.setCell (by simp) _⟩
  | true =>
    have hcd : codeOf ms rs = 0 := by simpa using hcode
    have HR := Lib.hid (rateAll_ok hcd)
    obtain ⟨z1, z2, z3, _⟩ := code_zero hcd
    have HINV := Lib.hid (ratesAll_inv (ratings_of z1) z2 z3)
    have HOK := Lib.hid z2
    have HKN := Lib.hid z3
    have HCD := Lib.hid hcd
    clear hcode hcd z1 z2 z3
    go_enter Try.func26, Try.ntmps26
    go_wp2_with fail
    rw [← HW1.out]
    refine (resultsCode_any ms rs (some ad) ra cap rcap w1 (HM.out.kept hb) (HRS.out.kept hb) hl hlr hf HFR.out).mono ?_
    rintro e w3 ⟨rfl, hd⟩
    replace c1 := cell_kept c1 hd
    replace f1 := frozen_kept f1 d1 hd
    replace d1 := cell_kept d1 hd
    replace hb := hb.trans (hd.mono hb.size)
    clear hd
    rw [HCD.out]
    go_wp2_with fail
    refine (cloneMem_any ms (some ad) cap w3 (HM.out.kept hb) hl (by simp)).mono ?_
    rintro e w4 ⟨a', cap', rfl, ho4, hd⟩
    have hlt1 := block_lt d1
    replace f1 := frozen_kept f1 d1 hd
    replace d1 := cell_kept d1 hd
    replace hb := hb.trans (hd.mono hb.size)
    have HO4 := Lib.hid (own_mono ho4 (base' := w.heap.size + 2) (by omega))
    have HLT := Lib.hid ho4.lt
    clear ho4 hd c1
    go_wp2_with fail
    have hx : Below w4.heap.size w4 (w4.alloc (.cells #[.slice a' ms.length cap'] 30)) := (Below.refl _ _).alloc (Nat.le_refl _) _
    have c7 := cell_new0 w4 #[.slice a' ms.length cap'] 30 (i := 0) (v := .slice a' ms.length cap') rfl
    have f7 : (w4.alloc (.cells #[.slice a' ms.length cap'] 30)).frozen? ⟨w4.heap.size, 0, none⟩ = false := by simp [go_sem]
    replace f1 := frozen_kept f1 d1 hx
    have h7 := block_lt d1
    replace d1 := cell_kept d1 hx
    replace hb := hb.trans (hx.mono hb.size)
    have HO5 := Lib.hid (own_below HO4.out hx)
    generalize w4.alloc (.cells #[.slice a' ms.length cap'] 30) = w5 at *
    clear HO4 hx
    go_loopw [23] (fun i wr => ∃ k : Nat, k ≤ rs.length ∧ i = .int .i64 k ∧ wr.cell? ⟨w4.heap.size, 0, none⟩ = some (.slice a' ms.length cap') ∧ Hid (wr.ownsRow (w.heap.size + 2) 56 2 (.slice a' ms.length cap') ms.length ((ratesAll ms (rs.take k)).flatMap Mem.enc)) ∧ wr.cell? ⟨w.heap.size + 1, 0, none⟩ = some (.slice none 0 0) ∧ wr.frozen? ⟨w.heap.size + 1, 0, none⟩ = false ∧ Below w.heap.size w wr) (fun i _ => rs.length - (intOf i).toNat)
    case atStart => exact ⟨0, Nat.zero_le _, rfl, c7, HO5, d1, f1, hb⟩
    case round =>
      clear c7 f7 d1 f1 hb HO5
      obtain ⟨k, hk, rfl, c7, HO7, d1, f1, hb⟩ := hrel
      by_cases hlt : k < rs.length
      · obtain ⟨xb, xo, rfl, hcs⟩ := (HRS.out.kept hb).open hlt
        obtain ⟨q0, q1, q2, q3⟩ := resAt_of hcs hlt
        obtain ⟨hnm, hrt⟩ := HINV.out k hk
        have HL := Lib.hid (names_len hnm)
        have HK1 := Lib.hid (List.all_eq_true.1 HOK.out _ (List.getElem_mem hlt))
        have HK2 := Lib.hid ((known_names hnm rs[k]).trans (List.all_eq_true.1 HKN.out _ (List.getElem_mem hlt)))
        have HRT := Lib.hid hrt
        have HSUCC := Lib.hid (ratesAll_succ (ms := ms) hlt)
        clear hcs hnm hrt
        generalize ratesAll ms (rs.take k) = L at *
        have hx : Below wr.heap.size wr (wr.alloc (.cells #[.string rs[k].a, .string rs[k].b, .int .i64 rs[k].sa, .int .i64 rs[k].sb] 39)) := (Below.refl _ _).alloc (Nat.le_refl _) _
        replace c7 := cell_kept c7 hx
        replace f1 := frozen_kept f1 d1 hx
        replace d1 := cell_kept d1 hx
        replace hb := hb.trans (hx.mono hb.size)
        replace HO7 := Lib.hid (own_below HO7.out hx)
        go_wp2_with fail
        generalize wr.alloc (.cells #[.string rs[k].a, .string rs[k].b, .int .i64 rs[k].sa, .int .i64 rs[k].sb] 39) = w6 at *
        have hcall := rate_any L rs[k] a' cap' (w.heap.size + 2) w6 (by rw [HL.out]; exact HO7.out) (by rw [HL.out]; exact hl) HK1.out HK2.out HRT.out
        rw [HL.out] at hcall
        refine hcall.mono ?_
        rintro e w7 ⟨rfl, ho, hg⟩
        have hneb : ∀ b, b < w3.heap.size ∨ b = w4.heap.size → some b ≠ (Value.slice a' ms.length cap').ownBlock := fun b h e => by
          have := HLT.out b e.symm
          omega
        replace c7 := hg.cell c7 (hneb _ (.inr rfl))
        replace f1 : w7.frozen? ⟨w.heap.size + 1, 0, none⟩ = false := by
          rw [World.frozen?_of_block (hg.block (w.heap.size + 1) (block_lt d1) (hneb _ (.inl hlt1)))]
          exact f1
        replace d1 := hg.cell d1 (hneb _ (.inl hlt1))
        replace hb := hb.grown hg hb.size (fun j hj => by have := (HLT.out j hj).1; omega)
        have HO8 := Lib.hid ho
        clear hcall ho hg hneb HO7 hx q0 q1 q2 q3
        go_wp2
        go_roundw
        case rel =>
          refine ⟨k + 1, by omega, by go_num, c7, ?_, d1, f1, hb⟩
          rw [HSUCC.out]
          exact HO8
        case measure => simp [intOf]; omega
      · have hend : rs.take k = rs := List.take_of_length_le (by omega)
        have hLe := names_len (HINV.out rs.length (Nat.le_refl _)).1
        rw [List.take_length] at hLe
        rw [hend] at HO7
        have HLE := Lib.hid hLe
        clear hLe
        have hFin : (wr.setCell ⟨w.heap.size + 1, 0, none⟩ (.slice a' ms.length cap')).cell? ⟨w.heap.size + 1, 0, none⟩ = some (.slice a' ms.length cap') := by go_cell
        go_wp2
        refine bodyPost_ret (v := .tuple #[.agg #[.slice a' ms.length cap'], .int .i64 0]) (by simp [results, Try.results26, go_sem, hFin]) rfl ?_
        rw [HR.out]
        refine ⟨a', cap', by simp only [HLE.out], ?_, hb.setCell (by simp) _⟩
        simp only [HLE.out]
        exact own_mono (own_setCell HO7.out (by omega) _) (by omega)
end Go.Proofs.Ytpodkgfapbcmlaa
