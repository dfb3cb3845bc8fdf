/- Contracts: the reference's draws for FnRatings. Nothing is said of what is drawn but that it can be read. -/
import Derived.Test.YtpodkgfapbcmlaaDrE
namespace Go.Proofs.Ytpodkgfapbcmlaa
open Go.ChangeShapes Go.WideShapes Go.ChangeAt Go.RowKit Go.Sort

/-- two numbers that were drawn -/
def ExpDrawn (w : World) (e : Ending) (w' : World) : Prop := ∃ x y : Int, e = .returned (.tuple #[.int .i64 x, .int .i64 y]) ∧ Below w.heap.size w w'
set_option maxRecDepth 100000 in
set_option maxHeartbeats 4000000 in
theorem DrawExpectedOf_any (ca : Option Addr) (ccap : Nat) (bs : List Int) (w : World) (hc : CodeAt w w.heap.size ca bs) :
    Calls Try.prog 35 #[.slice ca bs.length ccap] w (ExpDrawn w) := by
  have HC := Lib.hid hc
  clear hc
  go_enter Try.func35, Try.ntmps35
  go_wp2_with fail
  refine (l00From_any ca ccap bs _ HC.out).mono ?_
  rintro e w2 ⟨rfl, hb, s2, hz2⟩
  have HS := Lib.hid s2
  clear s2 HC
  go_wp2_with fail
  refine (pick_any 2000 _ _ _ _ HS.out (by omega)).mono ?_
  rintro e w3 ⟨x, ⟨x0, x1, _, x3⟩, rfl, s3, g3⟩
  replace HS := Lib.hid s3
  replace hb := hb.trans (below_row g3 (Nat.le_refl _) (by omega))
  have hz3 := g3.size
  clear s3 g3 x1
  go_wp2_with fail
  refine (pick_any 2000 _ _ _ _ HS.out (by omega)).mono ?_
  rintro e w4 ⟨y, ⟨y0, y1, _, y3⟩, rfl, s3, g3⟩
  replace HS := Lib.hid s3
  replace hb := hb.trans (below_row g3 (Nat.le_refl _) (by omega))
  have hz4 := g3.size
  clear s3 g3 y1
  go_wp2_with fail
  refine (pick_any 8 _ _ _ _ HS.out (by omega)).mono ?_
  rintro e w5 ⟨z, ⟨z0, z1, _, z3⟩, rfl, s3, g3⟩
  replace HS := Lib.hid s3
  replace hb := hb.trans (below_row g3 (Nat.le_refl _) (by omega))
  have hz5 := g3.size
  clear s3 g3 z1
  by_cases t0 : z = 0
  · subst t0
    have hx : Below w5.heap.size w5 (w5.alloc (.cells #[.int .i64 (-1), .int .i64 0, .int .i64 4000, .int .i64 4001] 2)) := (Below.refl _ _).alloc (Nat.le_refl _) _
    have hcn := cells_new (enc := I64.enc) (fun _ => rfl) w5 [-1, 0, 4000, 4001] 2
    replace HS := Lib.hid (HS.out.kept hx)
    replace hb := hb.trans (hx.mono hb.size)
    have HCN := Lib.hid hcn
    clear hcn hx
    go_wp2_with fail
    refine (among_any [-1, 0, 4000, 4001] w5.heap.size 4 _ _ _ _ HS.out (by omega) HCN.out (by decide) (by decide) (by omega)).mono ?_
    rintro e w6 ⟨q, _, rfl, s3, g3⟩
    replace hb := hb.trans (below_row g3 (Nat.le_refl _) hb.size)
    clear s3 g3 HCN HS
    go_wp2
    go_ret2
    exact ⟨_, _, rfl, hb⟩
  · by_cases t1 : z = 1
    · subst t1
      have hx : Below w5.heap.size w5 (w5.alloc (.cells #[.int .i64 400, .int .i64 401, .int .i64 (-400), .int .i64 0] 2)) := (Below.refl _ _).alloc (Nat.le_refl _) _
      have hcn := cells_new (enc := I64.enc) (fun _ => rfl) w5 [400, 401, -400, 0] 2
      replace HS := Lib.hid (HS.out.kept hx)
      replace hb := hb.trans (hx.mono hb.size)
      have HCN := Lib.hid hcn
      clear hcn hx
      go_wp2_with fail
      refine (among_any [400, 401, -400, 0] w5.heap.size 4 _ _ _ _ HS.out (by omega) HCN.out (by decide) (by decide) (by omega)).mono ?_
      rintro e w6 ⟨q, _, rfl, s3, g3⟩
      replace hb := hb.trans (below_row g3 (Nat.le_refl _) hb.size)
      clear s3 g3 HCN HS
      go_wp2
      go_ret2
      exact ⟨_, _, rfl, hb⟩
    · have e0 : (z == 0) = false := by simpa using t0
      have e1 : (z == 1) = false := by simpa using t1
      go_wp2
      go_ret2
      exact ⟨_, _, rfl, hb⟩
/-- a club and a member that were drawn -/
def AddDrawn (w : World) (e : Ending) (w' : World) : Prop :=
  ∃ (a : Option Addr) (cap : Nat) (ms : List Mem) (m : Mem), e = .returned (.tuple #[.agg #[.slice a ms.length cap], .agg #[.string m.name, .int .i64 m.rating]]) ∧ SliceAt w' 2 Mem.enc a ms ∧ (a = none → ms = [] ∧ cap = 0) ∧ ms.length ≤ 13 ∧ MemsFit ms ∧ m.fit ∧ Below w.heap.size w w'
theorem nm_fit {x : ByteArray} (h : x ∈ ([⟨#[97, 97]⟩, ⟨#[98, 98]⟩, ⟨#[122, 122]⟩, ⟨#[97, 120]⟩, ⟨#[99, 120]⟩, ⟨#[]⟩, ⟨#[113, 45, 49]⟩] : List ByteArray)) : x.size ≤ 9223372036854775807 := by
  simp only [List.mem_cons, List.not_mem_nil, or_false] at h
  rcases h with rfl | rfl | rfl | rfl | rfl | rfl | rfl <;> decide
set_option maxRecDepth 100000 in
set_option maxHeartbeats 4000000 in
theorem DrawAddMember_any (ca : Option Addr) (ccap : Nat) (bs : List Int) (w : World) (hc : CodeAt w w.heap.size ca bs) :
    Calls Try.prog 38 #[.slice ca bs.length ccap] w (AddDrawn w) := by
  obtain ⟨w1, hw1⟩ : ∃ w1, w1 = (w.alloc (.cells #[.slice none 0 0] 30)).alloc (.cells #[.string ⟨#[]⟩, .int .i64 0] 56) := ⟨_, rfl⟩
  have hb : Below w.heap.size w w1 := by rw [hw1]; exact ((Below.refl _ _).alloc (Nat.le_refl _) _).alloc (by simp) _
  have hz1 : w1.heap.size = w.heap.size + 2 := by rw [hw1]; simp
  have V0 : Hid (VarAt w1 w.heap.size 30 [.slice none 0 0]) := by
    rw [hw1]
    exact Lib.hid ((VarAt.new w 30 [.slice none 0 0]).kept ((Below.refl _ _).alloc (Nat.le_refl _) _))
  have W0 : Hid (VarAt w1 (w.heap.size + 1) 56 [.string ⟨#[]⟩, .int .i64 0]) := by
    rw [hw1]
    have := VarAt.new (w.alloc (.cells #[.slice none 0 0] 30)) 56 [.string ⟨#[]⟩, .int .i64 0]
    simp only [World.size_alloc] at this
    exact Lib.hid this
  have HC : Hid (CodeAt w1 w1.heap.size ca bs) := by
    obtain ⟨c1, c2, c3, c4⟩ := hc
    exact Lib.hid ⟨c1.kept hb, c2, c3, fun h0 cb co e => by have := c4 h0 cb co e; omega⟩
  clear hc
  go_enter Try.func38, Try.ntmps38
  go_wp2_with fail
  rw [← hw1]
  clear hw1
  refine (l00From_any ca ccap bs _ HC.out).mono ?_
  rintro e w2 ⟨rfl, h2, s2, hz2⟩
  rw [hz1] at s2 hz2 ⊢
  have HS := Lib.hid s2
  replace V0 := Lib.hid (V0.out.kept h2)
  replace W0 := Lib.hid (W0.out.kept h2)
  replace hb := hb.trans (h2.mono hb.size)
  clear h2 s2 HC
  go_wp2_with fail
  refine (l26Bent_any (w.heap.size + 2 + 1) (w.heap.size + 2) 0 w2 HS.out (by omega) (by omega)).mono ?_
  rintro e w3 ⟨a, cap, ms, rfl, ho, hl, hf, s3, g3⟩
  rw [hz2] at ho
  have hz3 : w.heap.size + 2 + 1 ≤ w3.heap.size := by have := g3.size; omega
  have HO := Lib.hid ho
  have HF := Lib.hid hf
  replace HS := Lib.hid s3
  replace V0 := Lib.hid (V0.out.grown g3 (by simp))
  replace W0 := Lib.hid (W0.out.grown g3 (by simp))
  replace hb := hb.trans (below_row g3 (by omega) (by omega))
  have HN := Lib.hid (own_nil2 HO.out rfl)
  clear ho hf s3 g3 hz2
  have hx : Below w3.heap.size w3 (w3.alloc (.cells #[.slice a ms.length cap] 30)) := (Below.refl _ _).alloc (Nat.le_refl _) _
  have V1 := Lib.hid (VarAt.new w3 30 [.slice a ms.length cap])
  replace HS := Lib.hid (HS.out.kept hx)
  replace V0 := Lib.hid (V0.out.kept hx)
  replace W0 := Lib.hid (W0.out.kept hx)
  replace hb := hb.trans (hx.mono hb.size)
  replace HO := Lib.hid (own_below HO.out hx)
  clear hx
  generalize hB : w3.heap.size = B1 at *
  obtain ⟨w4, hw4⟩ : ∃ w4, w3.alloc (.cells #[.slice a ms.length cap] 30) = w4 := ⟨_, rfl⟩
  rw [hw4] at V1 V0 W0 HS hb HO
  have hx : Below w4.heap.size w4 (w4.alloc (.cells #[.string ⟨#[97, 97]⟩, .string ⟨#[98, 98]⟩, .string ⟨#[122, 122]⟩, .string ⟨#[97, 120]⟩, .string ⟨#[99, 120]⟩, .string ⟨#[]⟩, .string ⟨#[113, 45, 49]⟩] 9)) := (Below.refl _ _).alloc (Nat.le_refl _) _
  have hcn := cells_new (enc := Str.enc) (fun _ => rfl) w4 [⟨#[97, 97]⟩, ⟨#[98, 98]⟩, ⟨#[122, 122]⟩, ⟨#[97, 120]⟩, ⟨#[99, 120]⟩, ⟨#[]⟩, ⟨#[113, 45, 49]⟩] 9
  have hB4 := V1.out.lt
  replace HS := Lib.hid (HS.out.kept hx)
  replace hb := hb.trans ((hx).mono hb.size)
  replace V0 := Lib.hid (V0.out.kept hx)
  replace W0 := Lib.hid (W0.out.kept hx)
  replace V1 := Lib.hid (V1.out.kept hx)
  replace HO := Lib.hid (own_below HO.out hx)
  have HCN := Lib.hid hcn
  clear hcn hx
  go_wp2_with fail
  clear hw4 hB
  refine (text_any [⟨#[97, 97]⟩, ⟨#[98, 98]⟩, ⟨#[122, 122]⟩, ⟨#[97, 120]⟩, ⟨#[99, 120]⟩, ⟨#[]⟩, ⟨#[113, 45, 49]⟩] w4.heap.size 7 _ _ _ _ HS.out (by omega) HCN.out (by decide) (by decide) (by omega)).mono ?_
  rintro e w5 ⟨nm, hnm, rfl, s4, g4⟩
  replace HS := Lib.hid s4
  replace hb := hb.trans (below_row g4 (by omega) (by have := V0.out.lt; omega))
  replace V0 := Lib.hid (V0.out.grown g4 (by simp <;> omega))
  replace W0 := Lib.hid (W0.out.grown g4 (by simp <;> omega))
  replace V1 := Lib.hid (V1.out.grown g4 (by simp; omega))
  replace HO := Lib.hid (HO.out.kept g4 (.inr (fun e => by have := (HO.out.lt _ e).1; omega)))
  have HQ := Lib.hid (nm_fit hnm)
  clear s4 g4 hnm HCN
  go_wp2_with fail
  refine (pick_any 3000 _ _ _ _ HS.out (by omega)).mono ?_
  rintro e w6 ⟨x, _, rfl, s4, g4⟩
  replace HS := Lib.hid s4
  replace hb := hb.trans (below_row g4 (by omega) (by have := V0.out.lt; omega))
  replace V0 := Lib.hid (V0.out.grown g4 (by simp <;> omega))
  replace W0 := Lib.hid (W0.out.grown g4 (by simp <;> omega))
  replace V1 := Lib.hid (V1.out.grown g4 (by simp; omega))
  replace HO := Lib.hid (HO.out.kept g4 (.inr (fun e => by have := (HO.out.lt _ e).1; omega)))
  clear s4 g4
  go_wp2_with fail
  refine (one_any 12 _ _ _ _ HS.out (by omega)).mono ?_
  rintro e w7 ⟨y, rfl, s4, g4⟩
  replace HS := Lib.hid s4
  replace hb := hb.trans (below_row g4 (by omega) (by have := V0.out.lt; omega))
  replace V0 := Lib.hid (V0.out.grown g4 (by simp <;> omega))
  replace W0 := Lib.hid (W0.out.grown g4 (by simp <;> omega))
  replace V1 := Lib.hid (V1.out.grown g4 (by simp; omega))
  replace HO := Lib.hid (HO.out.kept g4 (.inr (fun e => by have := (HO.out.lt _ e).1; omega)))
  clear s4 g4
  cases y with
  | false =>
    obtain ⟨rt, hrt⟩ : ∃ rt, x = rt := ⟨_, rfl⟩
    subst hrt
    have d1 := V1.out.cell (i := 0) rfl
    have d0 := V0.out.cell (i := 0) rfl
    have f0 := V0.out.free 0
    have u0 := W0.out.cell (i := 0) rfl
    have u1 := W0.out.cell (i := 1) rfl
    have v0 := W0.out.free 0
    have v1 := W0.out.free 1
    obtain ⟨o7, g7⟩ := V0.out.set 0 (.slice a ms.length cap)
    obtain ⟨o8, g8⟩ := (W0.out.grown g7 (by simp)).set 0 (.string nm)
    obtain ⟨o9, g9⟩ := o8.set 1 (.int .i64 x)
    have e0 := (o7.grown (grownBy_trans g8 g9) (by simp)).cell (i := 0) (v := .slice a ms.length cap) rfl
    have e1 := o9.cell (i := 0) (v := .string nm) rfl
    have e2 := o9.cell (i := 1) (v := .int .i64 x) rfl
    replace HO := Lib.hid ((HO.out.kept g7 (.inr (own_en HO.out (by omega)))).kept (grownBy_trans g8 g9) (.inr (own_en HO.out (by omega))))
    replace hb := (hb.trans (below_row g7 (Nat.le_refl _) hb.size)).trans (below_row (grownBy_trans g8 g9) (by omega) (by have := hb.size; have := g7.size; omega))
    clear o7 o8 o9 g7 g8 g9
    go_wp2
    refine bodyPost_ret (v := .tuple #[.agg #[.slice a ms.length cap], .agg #[.string nm, .int .i64 x]]) (by simp [results, Try.results38, go_sem, e0, e1, e2]) rfl ?_
    exact ⟨a, cap, ms, ⟨nm, x⟩, rfl, own_slice Mem.enc_len HO.out rfl, HN.out, hl, HF.out, HQ.out, hb⟩
  | true =>
    have hx : Below w7.heap.size w7 (w7.alloc (.cells #[.int .i64 (-1), .int .i64 4000, .int .i64 4001] 2)) := (Below.refl _ _).alloc (Nat.le_refl _) _
    have hcn := cells_new (enc := I64.enc) (fun _ => rfl) w7 [-1, 4000, 4001] 2
    have hB7 := V1.out.lt
    replace HS := Lib.hid (HS.out.kept hx)
    replace hb := hb.trans ((hx).mono hb.size)
    replace V0 := Lib.hid (V0.out.kept hx)
    replace W0 := Lib.hid (W0.out.kept hx)
    replace V1 := Lib.hid (V1.out.kept hx)
    replace HO := Lib.hid (own_below HO.out hx)
    have HCN := Lib.hid hcn
    clear hcn hx
    go_wp2_with fail
    refine (among_any [-1, 4000, 4001] w7.heap.size 3 _ _ _ _ HS.out (by omega) HCN.out (by decide) (by decide) (by omega)).mono ?_
    rintro e w8 ⟨rt, _, rfl, s4, g4⟩
    replace HS := Lib.hid s4
    replace hb := hb.trans (below_row g4 (by omega) (by have := V0.out.lt; omega))
    replace V0 := Lib.hid (V0.out.grown g4 (by simp <;> omega))
    replace W0 := Lib.hid (W0.out.grown g4 (by simp <;> omega))
    replace V1 := Lib.hid (V1.out.grown g4 (by simp; omega))
    replace HO := Lib.hid (HO.out.kept g4 (.inr (fun e => by have := (HO.out.lt _ e).1; omega)))
    clear s4 g4 HCN
    have d1 := V1.out.cell (i := 0) rfl
    have d0 := V0.out.cell (i := 0) rfl
    have f0 := V0.out.free 0
    have u0 := W0.out.cell (i := 0) rfl
    have u1 := W0.out.cell (i := 1) rfl
    have v0 := W0.out.free 0
    have v1 := W0.out.free 1
    obtain ⟨o7, g7⟩ := V0.out.set 0 (.slice a ms.length cap)
    obtain ⟨o8, g8⟩ := (W0.out.grown g7 (by simp)).set 0 (.string nm)
    obtain ⟨o9, g9⟩ := o8.set 1 (.int .i64 rt)
    have e0 := (o7.grown (grownBy_trans g8 g9) (by simp)).cell (i := 0) (v := .slice a ms.length cap) rfl
    have e1 := o9.cell (i := 0) (v := .string nm) rfl
    have e2 := o9.cell (i := 1) (v := .int .i64 rt) rfl
    replace HO := Lib.hid ((HO.out.kept g7 (.inr (own_en HO.out (by omega)))).kept (grownBy_trans g8 g9) (.inr (own_en HO.out (by omega))))
    replace hb := (hb.trans (below_row g7 (Nat.le_refl _) hb.size)).trans (below_row (grownBy_trans g8 g9) (by omega) (by have := hb.size; have := g7.size; omega))
    clear o7 o8 o9 g7 g8 g9
    go_wp2
    refine bodyPost_ret (v := .tuple #[.agg #[.slice a ms.length cap], .agg #[.string nm, .int .i64 rt]]) (by simp [results, Try.results38, go_sem, e0, e1, e2]) rfl ?_
    exact ⟨a, cap, ms, ⟨nm, rt⟩, rfl, own_slice Mem.enc_len HO.out rfl, HN.out, hl, HF.out, HQ.out, hb⟩
/-- a club and a result that were drawn -/
def RateDrawn (w : World) (e : Ending) (w' : World) : Prop :=
  ∃ (a : Option Addr) (cap : Nat) (ms : List Mem) (r : Res), e = .returned (.tuple #[.agg #[.slice a ms.length cap], .agg #[.string r.a, .string r.b, .int .i64 r.sa, .int .i64 r.sb]]) ∧ SliceAt w' 2 Mem.enc a ms ∧ (a = none → ms = [] ∧ cap = 0) ∧ ms.length ≤ 13 ∧ MemsFit ms ∧ r.fit ∧ Below w.heap.size w w'
set_option maxRecDepth 100000 in
set_option maxHeartbeats 4000000 in
theorem DrawRateResult_any (ca : Option Addr) (ccap : Nat) (bs : List Int) (w : World) (hc : CodeAt w w.heap.size ca bs) :
    Calls Try.prog 34 #[.slice ca bs.length ccap] w (RateDrawn w) := by
  obtain ⟨w1, hw1⟩ : ∃ w1, w1 = (w.alloc (.cells #[.slice none 0 0] 30)).alloc (.cells #[.string ⟨#[]⟩, .string ⟨#[]⟩, .int .i64 0, .int .i64 0] 39) := ⟨_, rfl⟩
  have hb : Below w.heap.size w w1 := by rw [hw1]; exact ((Below.refl _ _).alloc (Nat.le_refl _) _).alloc (by simp) _
  have hz1 : w1.heap.size = w.heap.size + 2 := by rw [hw1]; simp
  have V0 : Hid (VarAt w1 w.heap.size 30 [.slice none 0 0]) := by
    rw [hw1]
    exact Lib.hid ((VarAt.new w 30 [.slice none 0 0]).kept ((Below.refl _ _).alloc (Nat.le_refl _) _))
  have W0 : Hid (VarAt w1 (w.heap.size + 1) 39 [.string ⟨#[]⟩, .string ⟨#[]⟩, .int .i64 0, .int .i64 0]) := by
    rw [hw1]
    have := VarAt.new (w.alloc (.cells #[.slice none 0 0] 30)) 39 [.string ⟨#[]⟩, .string ⟨#[]⟩, .int .i64 0, .int .i64 0]
    simp only [World.size_alloc] at this
    exact Lib.hid this
  have HC : Hid (CodeAt w1 w1.heap.size ca bs) := by
    obtain ⟨c1, c2, c3, c4⟩ := hc
    exact Lib.hid ⟨c1.kept hb, c2, c3, fun h0 cb co e => by have := c4 h0 cb co e; omega⟩
  clear hc
  go_enter Try.func34, Try.ntmps34
  go_wp2_with fail
  rw [← hw1]
  clear hw1
  refine (l00From_any ca ccap bs _ HC.out).mono ?_
  rintro e w2 ⟨rfl, h2, s2, hz2⟩
  rw [hz1] at s2 hz2 ⊢
  have HS := Lib.hid s2
  replace V0 := Lib.hid (V0.out.kept h2)
  replace W0 := Lib.hid (W0.out.kept h2)
  replace hb := hb.trans (h2.mono hb.size)
  clear h2 s2 HC
  go_wp2_with fail
  refine (l26Bent_any (w.heap.size + 2 + 1) (w.heap.size + 2) 0 w2 HS.out (by omega) (by omega)).mono ?_
  rintro e w3 ⟨a, cap, ms, rfl, ho, hl, hf, s3, g3⟩
  rw [hz2] at ho
  have hz3 : w.heap.size + 2 + 1 ≤ w3.heap.size := by have := g3.size; omega
  have HO := Lib.hid ho
  have HF := Lib.hid hf
  replace HS := Lib.hid s3
  replace V0 := Lib.hid (V0.out.grown g3 (by simp))
  replace W0 := Lib.hid (W0.out.grown g3 (by simp))
  replace hb := hb.trans (below_row g3 (by omega) (by omega))
  have HN := Lib.hid (own_nil2 HO.out rfl)
  have HBK := Lib.hid (own_block HO.out)
  clear ho hf s3 g3 hz2
  have hx : Below w3.heap.size w3 (w3.alloc (.cells #[.slice a ms.length cap] 30)) := (Below.refl _ _).alloc (Nat.le_refl _) _
  have V1 := Lib.hid (VarAt.new w3 30 [.slice a ms.length cap])
  replace HS := Lib.hid (HS.out.kept hx)
  replace V0 := Lib.hid (V0.out.kept hx)
  replace W0 := Lib.hid (W0.out.kept hx)
  replace hb := hb.trans (hx.mono hb.size)
  replace HO := Lib.hid (own_below HO.out hx)
  clear hx
  generalize hB : w3.heap.size = B1 at *
  obtain ⟨w4, hw4⟩ : ∃ w4, w3.alloc (.cells #[.slice a ms.length cap] 30) = w4 := ⟨_, rfl⟩
  rw [hw4] at V1 V0 W0 HS hb HO
  go_upto_region 3 with fail
  clear hw4 hB
  have hd : Below w4.heap.size w4 w4.drew := (Below.refl _ _).drew
  have c1 := V1.out.cell (i := 0) rfl
  replace HS := Lib.hid (HS.out.kept hd)
  replace hb := hb.trans ((hd).mono hb.size)
  replace V0 := Lib.hid (V0.out.kept hd)
  replace W0 := Lib.hid (W0.out.kept hd)
  replace V1 := Lib.hid (V1.out.kept hd)
  replace HO := Lib.hid (own_below HO.out hd)
  have hB4 := V1.out.lt
  have hDR := l26DrawResult_any ms a cap B1 (w.heap.size + 2 + 1) (w.heap.size + 2) _ w4.drew HS.out (by omega) (by omega) (V1.out.cell (i := 0) rfl) ⟨by omega, V1.out.lt⟩ (own_slice Mem.enc_len HO.out rfl) (fun y hy => by have := own_block HO.out y hy; omega) HF.out (by omega)
  have HDR := Lib.hid hDR
  clear hDR hd
  go_region_law
    ((go_simp; go_at_call 79; refine HDR.out.mono ?_; rintro e w5 ⟨rr, rfl, hq, s5, g5⟩; replace hb := hb.trans (below_row g5 (by omega) hb.size); replace V0 := Lib.hid (V0.out.grown g5 (by simp)); replace W0 := Lib.hid (W0.out.grown g5 (by simp)); replace V1 := Lib.hid (V1.out.grown g5 (by simp; omega)); replace HO := Lib.hid (HO.out.kept g5 (.inr (fun e => by have := (HO.out.lt _ e).1; omega))); have HQ := Lib.hid hq; replace c1 := V1.out.cell (i := 0) rfl; have d0 := V0.out.cell (i := 0) rfl; have f0 := V0.out.free 0; have u0 := W0.out.cell (i := 0) rfl; have u1 := W0.out.cell (i := 1) rfl; have u2 := W0.out.cell (i := 2) rfl; have u3 := W0.out.cell (i := 3) rfl; have v0 := W0.out.free 0; have v1 := W0.out.free 1; have v2 := W0.out.free 2; have v3 := W0.out.free 3; clear s5 g5 hq))
  all_goals
    obtain ⟨o7, g7⟩ := V0.out.set 0 (.slice a ms.length cap)
    obtain ⟨o8, g8⟩ := (W0.out.grown g7 (by simp)).set 0 (.string rr.a)
    obtain ⟨o9, g9⟩ := o8.set 1 (.string rr.b)
    obtain ⟨o10, g10⟩ := o9.set 2 (.int .i64 rr.sa)
    obtain ⟨o11, g11⟩ := o10.set 3 (.int .i64 rr.sb)
    have gg := grownBy_trans (grownBy_trans (grownBy_trans g8 g9) g10) g11
    have e0 := (o7.grown gg (by simp)).cell (i := 0) (v := .slice a ms.length cap) rfl
    have e1 := o11.cell (i := 0) (v := .string rr.a) rfl
    have e2 := o11.cell (i := 1) (v := .string rr.b) rfl
    have e3 := o11.cell (i := 2) (v := .int .i64 rr.sa) rfl
    have e4 := o11.cell (i := 3) (v := .int .i64 rr.sb) rfl
    replace HO := Lib.hid ((HO.out.kept g7 (.inr (own_en HO.out (by omega)))).kept gg (.inr (own_en HO.out (by omega))))
    replace hb := (hb.trans (below_row g7 (Nat.le_refl _) hb.size)).trans (below_row gg (by omega) (by have := hb.size; have := g7.size; omega))
    clear o7 o8 o9 o10 o11 g7 g8 g9 g10 g11 gg
    go_wp2
    refine bodyPost_ret (v := .tuple #[.agg #[.slice a ms.length cap], .agg #[.string rr.a, .string rr.b, .int .i64 rr.sa, .int .i64 rr.sb]]) (by simp [results, Try.results34, go_sem, e0, e1, e2, e3, e4]) rfl ?_
    exact ⟨a, cap, ms, rr, rfl, own_slice Mem.enc_len HO.out rfl, HN.out, hl, HF.out, HQ.out, hb⟩
end Go.Proofs.Ytpodkgfapbcmlaa
