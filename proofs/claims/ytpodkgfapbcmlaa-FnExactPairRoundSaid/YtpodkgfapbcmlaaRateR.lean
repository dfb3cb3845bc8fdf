/- Contracts: RateResult (program and reference). -/
import Derived.Test.YtpodkgfapbcmlaaRateC
namespace Go.Proofs.Ytpodkgfapbcmlaa
open Go.ChangeShapes Go.WideShapes Go.ChangeAt Go.RowKit Go.Sort

def rateResult (ms : List Mem) (r : Res) : List Mem × Int × Int :=
  if codeOf ms [r] = 0 then ((rateOf ms r).1, (rateOf ms r).2, 0) else ([], 0, codeOf ms [r])
/-- a club in new memory, and two numbers -/
def ClubInt2 (w : World) (p : List Mem × Int × Int) (en : Ending) (w' : World) : Prop :=
  ∃ (a : Option Addr) (cap : Nat), en = .returned (.tuple #[.agg #[.slice a p.1.length cap], .int .i64 p.2.1, .int .i64 p.2.2]) ∧ w'.ownsRow w.heap.size 56 2 (.slice a p.1.length cap) p.1.length (p.1.flatMap Mem.enc) ∧ Below w.heap.size w w'
theorem code_zero {ms : List Mem} {rs : List Res} (h : codeOf ms rs = 0) : clubOk ms = true ∧ rs.all resOk = true ∧ rs.all (known ms) = true ∧ rs.length ≤ 200 := by
  unfold codeOf at h
  split at h
  · omega
  · split at h
    · omega
    · split at h
      · omega
      · split at h
        · omega
        · rename_i h1 h2 h3 h4
          exact ⟨by simpa using h1, by simpa using h2, by simpa using h3, by omega⟩
theorem rateResult_bad {ms : List Mem} {r : Res} (h : codeOf ms [r] ≠ 0) : rateResult ms r = ([], 0, codeOf ms [r]) := by unfold rateResult; rw [if_neg h]
theorem rateResult_ok {ms : List Mem} {r : Res} (h : codeOf ms [r] = 0) : rateResult ms r = ((rateOf ms r).1, (rateOf ms r).2, 0) := by unfold rateResult; rw [if_pos h]
theorem codeOf_bd (ms : List Mem) (rs : List Res) : 0 ≤ codeOf ms rs ∧ codeOf ms rs ≤ 5 := by
  unfold codeOf
  split <;> (try split) <;> (try split) <;> (try split) <;> omega
theorem slice_one {w : World} {b : Nat} {r : Res} (h : ResAt w b 0 r) : SliceAt w 4 Res.enc (some ⟨b, 0, none⟩) [r] := by
  refine .inr ⟨b, 0, rfl, fun i hi j v hv => ?_⟩
  obtain rfl : i = 0 := by simp at hi; omega
  obtain ⟨h0, h1, h2, h3⟩ := h
  match j, hv with
  | 0, hv => simp [Res.enc] at hv; subst hv; exact h0
  | 1, hv => simp [Res.enc] at hv; subst hv; exact h1
  | 2, hv => simp [Res.enc] at hv; subst hv; exact h2
  | 3, hv => simp [Res.enc] at hv; subst hv; exact h3
  | j + 4, hv => simp [Res.enc] at hv
theorem resAt_new (w : World) (r : Res) (t : TypeId) : ResAt (w.alloc (.cells #[.string r.a, .string r.b, .int .i64 r.sa, .int .i64 r.sb] t)) w.heap.size 0 r :=
  ⟨cell_new0 _ _ _ rfl, cell_new0 _ _ _ rfl, cell_new0 _ _ _ rfl, cell_new0 _ _ _ rfl⟩

set_option maxHeartbeats 4000000 in
theorem specRateResult_any (ms : List Mem) (r : Res) (a : Option Addr) (cap : Nat) (w : World) (hm : SliceAt w 2 Mem.enc a ms) (hn : a = none → ms = []) (hl : ms.length ≤ 1048576) (hf : MemsFit ms) (hfr : r.fit) :
    Calls Try.prog 18 #[.agg #[.slice a ms.length cap], .agg #[.string r.a, .string r.b, .int .i64 r.sa, .int .i64 r.sb]] w (ClubInt2 w (rateResult ms r)) := by
  have HM := Lib.hid hm; clear hm
  have HNIL := Lib.hid hn; clear hn
  -- the world behind the boxes
  obtain ⟨w1, hw1⟩ : ∃ w1, w1 = ((w.alloc (.cells #[.slice a ms.length cap] 30)).alloc (.cells #[.string r.a, .string r.b, .int .i64 r.sa, .int .i64 r.sb] 39)).alloc (.cells #[.slice none 0 0] 30) := ⟨_, rfl⟩
  have hb : Below w.heap.size w w1 := by rw [hw1]; exact (((Below.refl _ _).alloc (Nat.le_refl _) _).alloc (by simp) _).alloc (by simp; omega) _
  have c1 : w1.cell? ⟨w.heap.size, 0, none⟩ = some (.slice a ms.length cap) := by rw [hw1]; exact cell_alloc (cell_alloc (cell_new0 w _ _ rfl) _) _
  have r1 : ResAt w1 (w.heap.size + 1) 0 r := by
    rw [hw1]
    have := (resAt_new (w.alloc (.cells #[.slice a ms.length cap] 30)) r 39).kept ((Below.refl _ _).alloc (Nat.le_refl _) (.cells #[.slice none 0 0] 30))
    simpa using this
  have d1 : w1.cell? ⟨w.heap.size + 1 + 1, 0, none⟩ = some (.slice none 0 0) := by
    rw [hw1]
    have := cell_new0 ((w.alloc (.cells #[.slice a ms.length cap] 30)).alloc (.cells #[.string r.a, .string r.b, .int .i64 r.sa, .int .i64 r.sb] 39)) #[.slice none 0 0] 30 (i := 0) (v := .slice none 0 0) rfl
    simpa using this
  have f1 : w1.frozen? ⟨w.heap.size + 1 + 1, 0, none⟩ = false := by rw [hw1]; simp [go_sem]
  have hs1 : w1.heap.size = w.heap.size + 1 + 1 + 1 := by rw [hw1]; simp
  have HW1 := Lib.hid hw1; clear hw1
  have hx : Below w1.heap.size w1 (w1.alloc (.cells #[.string r.a, .string r.b, .int .i64 r.sa, .int .i64 r.sb] 39)) := (Below.refl _ _).alloc (Nat.le_refl _) _
  have RS : Hid (SliceAt (w1.alloc (.cells #[.string r.a, .string r.b, .int .i64 r.sa, .int .i64 r.sb] 39)) 4 Res.enc (some ⟨w.heap.size + 1 + 1 + 1, 0, none⟩) [r]) := by
    have := slice_one (resAt_new w1 r 39)
    rw [hs1] at this
    exact this
  have HS1 := Lib.hid hs1; clear hs1
  cases hcode : (codeOf ms [r] == 0) with
  | false =>
    have hcd : codeOf ms [r] ≠ 0 := by simpa using hcode
    have HR := Lib.hid (rateResult_bad hcd)
    have hcn : (codeOf ms [r] != 0) = true := by simpa using hcd
    have HCN := Lib.hid hcn
    clear hcode hcd hcn
    go_enter Try.func18, Try.ntmps18
    go_wp2_with fail
    rw [← HW1.out]
    replace c1 := cell_kept c1 hx
    replace d1 := cell_kept d1 hx
    replace f1 := (hx.frozen (p := ⟨w.heap.size + 1 + 1, 0, none⟩) (by rw [HS1.out]; simp)).trans f1
    replace hb := hb.trans (hx.mono hb.size)
    generalize w1.alloc (.cells #[.string r.a, .string r.b, .int .i64 r.sa, .int .i64 r.sb] 39) = w2 at *
    refine (l26Code_any ms [r] _ 0 a _ cap 1 w2 c1 (HM.out.kept hb) RS.out hl (by simp) hf (by intro x hx; simp at hx; subst hx; exact hfr)).mono ?_
    rintro e w3 ⟨rfl, hd⟩
    have d3 := (hd.cell ⟨w.heap.size + 1 + 1, 0, none⟩).trans d1
    have f3 := (hd.frozen ⟨w.heap.size + 1 + 1, 0, none⟩).trans f1
    have hb3 := hb.trans ((hd.below _).mono hb.size)
    generalize hcg : codeOf ms [r] = code at *
    have hcn := HCN.out
    clear hcg
    have hFin : (w3.setCell ⟨w.heap.size + 1 + 1, 0, none⟩ (.slice none 0 0)).cell? ⟨w.heap.size + 1 + 1, 0, none⟩ = some (.slice none 0 0) := by go_cell
    go_wp2
    refine bodyPost_ret (v := .tuple #[.agg #[.slice none 0 0], .int .i64 0, .int .i64 code]) (by simp [results, Try.results18, go_sem, hFin]) rfl ?_
    rw [HR.out]
    exact ⟨none, 0, rfl, by simpa using World.ownsRow_nil _ w.heap.size 56 2, hb3.setCell (by simp; omega) _⟩
  | true =>
    have hcd : codeOf ms [r] = 0 := by simpa using hcode
    have HR := Lib.hid (rateResult_ok hcd)
    obtain ⟨z1, z2, z3, _⟩ := code_zero hcd
    have hok : resOk r = true := by simpa using z2
    have hkn : known ms r = true := by simpa using z3
    have hrt := ratings_of z1
    have HCD := Lib.hid hcd
    have HOK := Lib.hid hok
    have HKN := Lib.hid hkn
    have HRT := Lib.hid hrt
    clear hcode hcd z1 z2 z3 hok hkn hrt
    go_enter Try.func18, Try.ntmps18
    go_wp2_with fail
    rw [← HW1.out]
    replace c1 := cell_kept c1 hx
    replace d1 := cell_kept d1 hx
    replace r1 := r1.kept hx
    replace f1 := (hx.frozen (p := ⟨w.heap.size + 1 + 1, 0, none⟩) (by rw [HS1.out]; simp)).trans f1
    replace hb := hb.trans (hx.mono hb.size)
    generalize w1.alloc (.cells #[.string r.a, .string r.b, .int .i64 r.sa, .int .i64 r.sb] 39) = w2 at *
    refine (l26Code_any ms [r] _ 0 a _ cap 1 w2 c1 (HM.out.kept hb) RS.out hl (by simp) hf (by intro x hx; simp at hx; subst hx; exact hfr)).mono ?_
    rintro e w3 ⟨rfl, hd⟩
    rw [HCD.out]
    replace c1 := (hd.cell ⟨w.heap.size, 0, none⟩).trans c1
    replace d1 := (hd.cell ⟨w.heap.size + 1 + 1, 0, none⟩).trans d1
    replace f1 := (hd.frozen ⟨w.heap.size + 1 + 1, 0, none⟩).trans f1
    replace r1 := r1.drew hd
    replace hb := hb.trans ((hd.below _).mono hb.size)
    have hR1 := Lib.hid r1; clear r1
    go_wp2_with fail
    refine (l26Rate_any ms r a cap _ 0 _ 0 w3 c1 (HM.out.kept hb) hR1.out HNIL.out hl HOK.out HKN.out HRT.out).mono ?_
    rintro e w4 ⟨a', cap', rfl, ho4, hd4⟩
    have hlt : w.heap.size + 1 + 1 < w3.heap.size := block_lt d1
    replace f1 := frozen_kept f1 d1 hd4
    replace d1 := cell_kept d1 hd4
    replace hb := hb.trans (hd4.mono hb.size)
    have hx5 : Below w4.heap.size w4 (w4.alloc (.cells #[.slice a' (rateOf ms r).1.length cap'] 30)) := (Below.refl _ _).alloc (Nat.le_refl _) _
    have c5 := cell_new0 w4 #[.slice a' (rateOf ms r).1.length cap'] 30 (i := 0) (v := .slice a' (rateOf ms r).1.length cap') rfl
    have d5 := cell_kept d1 hx5
    have f5 := frozen_kept f1 d1 hx5
    have HO5 := Lib.hid (own_below ho4 hx5)
    have hb5 := hb.trans (hx5.mono hb.size)
    generalize (rateOf ms r).1 = ms2 at *
    generalize (rateOf ms r).2 = x at *
    clear ho4 hx5
    have hFin : ((w4.alloc (.cells #[.slice a' ms2.length cap'] 30)).setCell ⟨w.heap.size + 1 + 1, 0, none⟩ (.slice a' ms2.length cap')).cell? ⟨w.heap.size + 1 + 1, 0, none⟩ = some (.slice a' ms2.length cap') := by
      generalize w4.alloc (.cells #[.slice a' ms2.length cap'] 30) = w5 at *
      go_cell
    go_wp2
    refine bodyPost_ret (v := .tuple #[.agg #[.slice a' ms2.length cap'], .int .i64 x, .int .i64 0]) (by simp [results, Try.results18, go_sem, hFin]) rfl ?_
    rw [HR.out]
    exact ⟨a', cap', rfl, own_mono (own_setCell HO5.out (by omega) _) (by omega), hb5.setCell (by simp; omega) _⟩
set_option maxHeartbeats 4000000 in
theorem RateResult_any (ms : List Mem) (r : Res) (a : Option Addr) (cap : Nat) (w : World) (hm : SliceAt w 2 Mem.enc a ms) (hn : a = none → ms = []) (hl : ms.length ≤ 1048576) (hf : MemsFit ms) (hfr : r.fit) :
    Calls Try.prog 20 #[.agg #[.slice a ms.length cap], .agg #[.string r.a, .string r.b, .int .i64 r.sa, .int .i64 r.sb]] w (ClubInt2 w (rateResult ms r)) := by
  have HM := Lib.hid hm; clear hm
  have HNIL := Lib.hid hn; clear hn
  -- the world behind the boxes
  obtain ⟨w1, hw1⟩ : ∃ w1, w1 = ((w.alloc (.cells #[.slice a ms.length cap] 30)).alloc (.cells #[.string r.a, .string r.b, .int .i64 r.sa, .int .i64 r.sb] 39)).alloc (.cells #[.slice none 0 0] 30) := ⟨_, rfl⟩
  have hb : Below w.heap.size w w1 := by rw [hw1]; exact (((Below.refl _ _).alloc (Nat.le_refl _) _).alloc (by simp) _).alloc (by simp; omega) _
  have c1 : w1.cell? ⟨w.heap.size, 0, none⟩ = some (.slice a ms.length cap) := by rw [hw1]; exact cell_alloc (cell_alloc (cell_new0 w _ _ rfl) _) _
  have r1 : ResAt w1 (w.heap.size + 1) 0 r := by
    rw [hw1]
    have := (resAt_new (w.alloc (.cells #[.slice a ms.length cap] 30)) r 39).kept ((Below.refl _ _).alloc (Nat.le_refl _) (.cells #[.slice none 0 0] 30))
    simpa using this
  have d1 : w1.cell? ⟨w.heap.size + 1 + 1, 0, none⟩ = some (.slice none 0 0) := by
    rw [hw1]
    have := cell_new0 ((w.alloc (.cells #[.slice a ms.length cap] 30)).alloc (.cells #[.string r.a, .string r.b, .int .i64 r.sa, .int .i64 r.sb] 39)) #[.slice none 0 0] 30 (i := 0) (v := .slice none 0 0) rfl
    simpa using this
  have f1 : w1.frozen? ⟨w.heap.size + 1 + 1, 0, none⟩ = false := by rw [hw1]; simp [go_sem]
  have hs1 : w1.heap.size = w.heap.size + 1 + 1 + 1 := by rw [hw1]; simp
  have HW1 := Lib.hid hw1; clear hw1
  have hx : Below w1.heap.size w1 (w1.alloc (.cells #[.string r.a, .string r.b, .int .i64 r.sa, .int .i64 r.sb] 39)) := (Below.refl _ _).alloc (Nat.le_refl _) _
  have RS : Hid (SliceAt (w1.alloc (.cells #[.string r.a, .string r.b, .int .i64 r.sa, .int .i64 r.sb] 39)) 4 Res.enc (some ⟨w.heap.size + 1 + 1 + 1, 0, none⟩) [r]) := by
    have := slice_one (resAt_new w1 r 39)
    rw [hs1] at this
    exact this
  have HS1 := Lib.hid hs1; clear hs1
  cases hcode : (codeOf ms [r] == 0) with
  | false =>
    have hcd : codeOf ms [r] ≠ 0 := by simpa using hcode
    have HR := Lib.hid (rateResult_bad hcd)
    have hcn : (codeOf ms [r] != 0) = true := by simpa using hcd
    have HCN := Lib.hid hcn
    clear hcode hcd hcn
    go_enter Try.func20, Try.ntmps20
    go_wp2_with fail
    rw [← HW1.out]
    replace c1 := cell_kept c1 hx
    replace d1 := cell_kept d1 hx
    replace f1 := (hx.frozen (p := ⟨w.heap.size + 1 + 1, 0, none⟩) (by rw [HS1.out]; simp)).trans f1
    replace hb := hb.trans (hx.mono hb.size)
    generalize w1.alloc (.cells #[.string r.a, .string r.b, .int .i64 r.sa, .int .i64 r.sb] 39) = w2 at *
    refine (resultsCode_any ms [r] a _ cap 1 w2 (HM.out.kept hb) RS.out hl (by simp) hf (by intro x hx; simp at hx; subst hx; exact hfr)).mono ?_
    rintro e w3 ⟨rfl, hd⟩
    have d3 := cell_kept d1 hd
    have f3 := frozen_kept f1 d1 hd
    have hb3 := hb.trans (hd.mono hb.size)
    generalize hcg : codeOf ms [r] = code at *
    have hcn := HCN.out
    clear hcg
    have hFin : (w3.setCell ⟨w.heap.size + 1 + 1, 0, none⟩ (.slice none 0 0)).cell? ⟨w.heap.size + 1 + 1, 0, none⟩ = some (.slice none 0 0) := by go_cell
    go_wp2
    refine bodyPost_ret (v := .tuple #[.agg #[.slice none 0 0], .int .i64 0, .int .i64 code]) (by simp [results, Try.results20, go_sem, hFin]) rfl ?_
    rw [HR.out]
    exact ⟨none, 0, rfl, by simpa using World.ownsRow_nil _ w.heap.size 56 2, hb3.setCell (by simp; omega) _⟩
  | true =>
    have hcd : codeOf ms [r] = 0 := by simpa using hcode
    have HR := Lib.hid (rateResult_ok hcd)
    obtain ⟨z1, z2, z3, _⟩ := code_zero hcd
    have hok : resOk r = true := by simpa using z2
    have hkn : known ms r = true := by simpa using z3
    have hrt := ratings_of z1
    have HCD := Lib.hid hcd
    have HOK := Lib.hid hok
    have HKN := Lib.hid hkn
    have HRT := Lib.hid hrt
    clear hcode hcd z1 z2 z3 hok hkn hrt
    go_enter Try.func20, Try.ntmps20
    go_wp2_with fail
    rw [← HW1.out]
    replace c1 := cell_kept c1 hx
    replace d1 := cell_kept d1 hx
    replace r1 := r1.kept hx
    replace f1 := (hx.frozen (p := ⟨w.heap.size + 1 + 1, 0, none⟩) (by rw [HS1.out]; simp)).trans f1
    replace hb := hb.trans (hx.mono hb.size)
    generalize w1.alloc (.cells #[.string r.a, .string r.b, .int .i64 r.sa, .int .i64 r.sb] 39) = w2 at *
    refine (resultsCode_any ms [r] a _ cap 1 w2 (HM.out.kept hb) RS.out hl (by simp) hf (by intro x hx; simp at hx; subst hx; exact hfr)).mono ?_
    rintro e w3 ⟨rfl, hd⟩
    rw [HCD.out]
    replace c1 := cell_kept c1 hd
    replace f1 := frozen_kept f1 d1 hd
    replace d1 := cell_kept d1 hd
    replace r1 := r1.kept hd
    replace hb := hb.trans (hd.mono hb.size)
    have hR1 := Lib.hid r1; clear r1
    go_wp2_with fail
    refine (cloneMem_any ms a cap w3 (HM.out.kept hb) hl HNIL.out).mono ?_
    rintro e w4 ⟨a', cap', rfl, ho4, hd4⟩
    have hlt : w.heap.size + 1 + 1 < w3.heap.size := block_lt d1
    have hR4 := hR1.out.kept hd4
    replace f1 := frozen_kept f1 d1 hd4
    replace d1 := cell_kept d1 hd4
    replace hb := hb.trans (hd4.mono hb.size)
    have hx5 : Below w4.heap.size w4 (w4.alloc (.cells #[.slice a' ms.length cap'] 30)) := (Below.refl _ _).alloc (Nat.le_refl _) _
    have o5 := cell_new0 w4 #[.slice a' ms.length cap'] 30 (i := 0) (v := .slice a' ms.length cap') rfl
    have d5 := cell_kept d1 hx5
    have f5 := frozen_kept f1 d1 hx5
    have hlt5 := ho4.lt
    have HLT := Lib.hid hlt5
    have HO5 := Lib.hid (own_below ho4 hx5)
    have hb5 := hb.trans (hx5.mono hb.size)
    obtain ⟨q0, q1, q2, q3⟩ := hR4.kept hx5
    clear ho4 hx5 hlt5 hR1 hR4 c1
    go_wp2_with fail
    generalize hw5 : w4.alloc (.cells #[.slice a' ms.length cap'] 30) = w5 at *
    clear hw5
    refine (rate_any ms r a' cap' _ w5 HO5.out hl HOK.out HKN.out HRT.out).mono ?_
    rintro e w6 ⟨rfl, ho6, hg6⟩
    have hne : ∀ b, b ≤ w3.heap.size - 1 → some b ≠ (Value.slice a' ms.length cap').ownBlock := by
      intro b hb' he
      have := (HLT.out b he.symm).1
      omega
    have o6 := hg6.cell o5 (by
      intro he
      have := (HLT.out _ he.symm).2
      simp at this)
    have d6 := hg6.cell d5 (hne _ (by simp; omega))
    have f6 : w6.frozen? ⟨w.heap.size + 1 + 1, 0, none⟩ = false := by
      rw [World.frozen?_of_block (hg6.block (w.heap.size + 1 + 1) (block_lt d5) (hne _ (by omega)))]
      exact f5
    have hb6 : Below w.heap.size w w6 := hb5.grown hg6 hb5.size (fun k hk => by
      have := (HLT.out k hk).1
      omega)
    have HO6 := Lib.hid ho6
    have hml : (rateOf ms r).1.length = ms.length := by
      unfold rateOf
      split
      · rfl
      · simp [moved]
    have HML := Lib.hid hml
    clear hml ho6 hg6 hne HO5
    generalize (rateOf ms r).2 = x at *
    have hFin : (w6.setCell ⟨w.heap.size + 1 + 1, 0, none⟩ (.slice a' ms.length cap')).cell? ⟨w.heap.size + 1 + 1, 0, none⟩ = some (.slice a' ms.length cap') := by go_cell
    go_wp2
    refine bodyPost_ret (v := .tuple #[.agg #[.slice a' ms.length cap'], .int .i64 x, .int .i64 0]) (by simp [results, Try.results20, go_sem, hFin]) rfl ?_
    rw [HR.out]
    refine ⟨a', cap', by rw [HML.out], ?_, hb6.setCell (by simp; omega) _⟩
    simp only [HML.out]
    exact own_mono (own_setCell HO6.out (by omega) _) (by omega)
end Go.Proofs.Ytpodkgfapbcmlaa
