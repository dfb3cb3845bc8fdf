/- Contracts: the reference's draws for FnClubTexts: clubs, results and texts that can be read, texts of small sizes. -/
import Derived.Test.YtlbnjdgfggiifaaGreatDoorCtA
import Derived.Test.YtlbnjdgfggiifaaGreatDoorCtP
import Derived.Test.YtlbnjdgfggiifaaGreatDoorDrDt
import Derived.Test.YtlbnjdgfggiifaaGreatDoorDrC
import Derived.Test.YtlbnjdgfggiifaaGreatDoorDoC
import Derived.Test.YtlbnjdgfggiifaaGreatDoorDoB
namespace Go.Proofs.YtlbnjdgfggiifaaGreatDoor
open Go.ChangeShapes Go.WideShapes Go.ChangeAt Go.RowKit Go.Sort

theorem own_block' {w : World} {base : Nat} {e : TypeId} {sz n cap : Nat} {a : Option Addr} {L : List Value} (h : w.ownsRow base e sz (.slice a n cap) n L) : ∀ x, a = some x → base ≤ x.block ∧ x.block < w.heap.size := by
  rintro x rfl
  rcases h.2 with ⟨h0, _⟩ | ⟨g, c, _, h0, _⟩
  · simp at h0
  · simp only [Value.slice.injEq, Option.some.injEq] at h0
    have := h.lt g (by rw [h0.1]; rfl)
    rw [h0.1]
    exact this
/-- a club that was drawn and can be read -/
def ClubOut (n : Nat) (w : World) (e : Ending) (w' : World) : Prop :=
  ∃ (a : Option Addr) (cap : Nat) (ms : List Mem), e = .returned (.agg #[.slice a ms.length cap]) ∧ SliceAt w' 2 Mem.enc a ms ∧ ms.length ≤ n ∧ MemsFit ms ∧ Below w.heap.size w w'
def TextOut (n : Nat) (w : World) (e : Ending) (w' : World) : Prop := ∃ u : ByteArray, e = .returned (.string u) ∧ u.size ≤ n ∧ Below w.heap.size w w'
def ResOut (w : World) (e : Ending) (w' : World) : Prop := ∃ r : Res, e = .returned (.agg #[.string r.a, .string r.b, .int .i64 r.sa, .int .i64 r.sb]) ∧ r.fit ∧ Below w.heap.size w w'
/-- a club and a name that were drawn -/
def RateOut (w : World) (e : Ending) (w' : World) : Prop :=
  ∃ (a : Option Addr) (cap : Nat) (ms : List Mem) (nm : ByteArray), e = .returned (.tuple #[.agg #[.slice a ms.length cap], .string nm]) ∧ SliceAt w' 2 Mem.enc a ms ∧ ms.length ≤ 13 ∧ MemsFit ms ∧ nm.size ≤ 2 ∧ Below w.heap.size w w'
set_option maxRecDepth 100000 in
set_option maxHeartbeats 2000000 in
theorem DrawClubText_any (ca : Option Addr) (ccap : Nat) (bs : List Int) (w : World) (hc : CodeAt w w.heap.size ca bs) : Calls Tryz.prog 5 #[.slice ca bs.length ccap] w (ClubOut 13 w) := by
  have hb : Below w.heap.size w (w.alloc (.cells #[.slice none 0 0] 26)) := (Below.refl _ _).alloc (Nat.le_refl _) _
  have hz1 : (w.alloc (.cells #[.slice none 0 0] 26)).heap.size = w.heap.size + 1 := by simp
  have V0 := Lib.hid (VarAt.new w 26 [.slice none 0 0])
  have HC : Hid (CodeAt (w.alloc (.cells #[.slice none 0 0] 26)) (w.alloc (.cells #[.slice none 0 0] 26)).heap.size ca bs) := by
    obtain ⟨c1, c2, c3, c4⟩ := hc
    exact Lib.hid ⟨c1.kept hb, c2, c3, fun h0 cb co e => by have := c4 h0 cb co e; omega⟩
  clear hc
  go_enter Tryz.func5, Tryz.ntmps5
  go_wp2_with fail
  refine (l00From_any ca ccap bs _ HC.out).mono ?_
  rintro e w2 ⟨rfl, h2, s2, hz2⟩
  rw [hz1] at s2 hz2 ⊢
  have HS := Lib.hid s2
  replace V0 := Lib.hid (V0.out.kept h2)
  replace hb := hb.trans (h2.mono hb.size)
  clear h2 s2 HC
  go_wp2_with fail
  refine (l26Bent_any _ _ _ w2 HS.out (by omega) (by omega)).mono ?_
  rintro e w3 ⟨a, cap, ms, rfl, ho, hl, hf, s3, g3⟩
  replace V0 := Lib.hid (V0.out.grown g3 (by simp))
  replace hb := hb.trans (below_row g3 (by omega) (by omega))
  have HF := Lib.hid hf
  have d0 := V0.out.cell (i := 0) rfl
  have f0 := V0.out.free 0
  obtain ⟨o7, g7⟩ := V0.out.set 0 (.slice a ms.length cap)
  have e0 := o7.cell (i := 0) (v := .slice a ms.length cap) rfl
  have HO := Lib.hid (own_slice Mem.enc_len (ho.kept g7 (.inr (fun e => by have := (ho.lt _ e).1; omega))) rfl)
  replace hb := hb.trans (below_row g7 (Nat.le_refl _) hb.size)
  clear ho hf s3 g3 o7 g7 HS V0 hz2
  go_wp2
  refine bodyPost_ret (v := .agg #[.slice a ms.length cap]) (by simp [results, Tryz.results5, go_sem, e0]) rfl ?_
  exact ⟨a, cap, ms, rfl, HO.out, hl, HF.out, hb⟩
set_option maxRecDepth 100000 in
set_option maxHeartbeats 2000000 in
theorem DrawReadClub_any (ca : Option Addr) (ccap : Nat) (bs : List Int) (w : World) (hc : CodeAt w w.heap.size ca bs) : Calls Tryz.prog 8 #[.slice ca bs.length ccap] w (TextOut 20000 w) := by
  have HC := Lib.hid hc
  clear hc
  go_enter Tryz.func8, Tryz.ntmps8
  go_wp2_with fail
  refine (l00From_any ca ccap bs _ HC.out).mono ?_
  rintro e w2 ⟨rfl, h2, s2, hz2⟩
  have HS := Lib.hid s2
  have hb := h2
  clear h2 s2 HC
  go_wp2_with fail
  refine (l26DrawT_any _ _ _ _ HS.out (by omega) (by omega)).mono ?_
  rintro e w3 ⟨a, cap, ms, rfl, ho, hl, hf, s3, g3⟩
  have HO := Lib.hid (own_slice Mem.enc_len ho rfl)
  have HBK := Lib.hid (own_block' ho)
  have HF := Lib.hid hf
  replace HS := Lib.hid s3
  replace hb := hb.trans (below_row g3 (Nat.le_refl _) (by omega))
  have hz3 := g3.size
  clear ho hf s3 g3
  have hx : Below w3.heap.size w3 (w3.alloc (.cells #[.slice a ms.length cap] 26)) := (Below.refl _ _).alloc (Nat.le_refl _) _
  have V1 := Lib.hid (VarAt.new w3 26 [.slice a ms.length cap])
  replace HS := Lib.hid (HS.out.kept hx)
  replace HO := Lib.hid (HO.out.kept hx)
  replace hb := hb.trans (hx.mono hb.size)
  clear hx
  generalize hB : w3.heap.size = B1 at *
  obtain ⟨w4, hw4⟩ : ∃ w4, w3.alloc (.cells #[.slice a ms.length cap] 26) = w4 := ⟨_, rfl⟩
  rw [hw4] at V1 HS hb HO
  have hz4 := V1.out.lt
  have d1 := V1.out.cell (i := 0) rfl
  have hcl := clubT_len HF.out
  have HT := Lib.hid (l26Text_any ms B1 0 a cap w4 d1 HO.out (HF.out.small (by omega)))
  go_wp2_with fail
  refine HT.out.mono ?_
  rintro e w5 ⟨rfl, hd⟩
  replace HS := Lib.hid (HS.out.kept hd)
  replace hb := hb.trans (hd.mono hb.size)
  have hz5 := hd.size
  clear hd HT V1 d1 HO hw4
  go_wp2_with fail
  refine (l01Spoil_any (mkB (clubL ms)) _ _ _ _ HS.out (by omega) (by rw [mkB_size]; omega)).mono ?_
  rintro e w6 ⟨u, rfl, hu, s6, g6⟩
  rw [mkB_size] at hu
  replace hb := hb.trans (below_row g6 (Nat.le_refl _) hb.size)
  clear s6 g6 HS
  go_wp2
  go_ret
  exact ⟨u, rfl, by omega, hb⟩
set_option maxRecDepth 100000 in
set_option maxHeartbeats 2000000 in
theorem DrawResultText_any (ca : Option Addr) (ccap : Nat) (bs : List Int) (w : World) (hc : CodeAt w w.heap.size ca bs) : Calls Tryz.prog 10 #[.slice ca bs.length ccap] w (ResOut w) := by
  have hb0 : Below w.heap.size w (w.alloc (.cells #[.string ⟨#[]⟩, .string ⟨#[]⟩, .int .i64 0, .int .i64 0] 33)) := (Below.refl _ _).alloc (Nat.le_refl _) _
  have hz1 : (w.alloc (.cells #[.string ⟨#[]⟩, .string ⟨#[]⟩, .int .i64 0, .int .i64 0] 33)).heap.size = w.heap.size + 1 := by simp
  have V0 := Lib.hid (VarAt.new w 33 [.string ⟨#[]⟩, .string ⟨#[]⟩, .int .i64 0, .int .i64 0])
  have HC : Hid (CodeAt (w.alloc (.cells #[.string ⟨#[]⟩, .string ⟨#[]⟩, .int .i64 0, .int .i64 0] 33)) (w.alloc (.cells #[.string ⟨#[]⟩, .string ⟨#[]⟩, .int .i64 0, .int .i64 0] 33)).heap.size ca bs) := by
    obtain ⟨c1, c2, c3, c4⟩ := hc
    exact Lib.hid ⟨c1.kept hb0, c2, c3, fun h0 cb co e => by have := c4 h0 cb co e; omega⟩
  clear hc
  go_enter Tryz.func10, Tryz.ntmps10
  go_wp2_with fail
  refine (l00From_any ca ccap bs _ HC.out).mono ?_
  rintro e w2 ⟨rfl, h2, s2, hz2⟩
  rw [hz1] at s2 hz2 ⊢
  have HS := Lib.hid s2
  replace V0 := Lib.hid (V0.out.kept h2)
  have hb := hb0.trans (h2.mono hb0.size)
  clear h2 s2 HC hb0 hz1
  go_wp2_with fail
  refine (l26DrawT_any _ _ _ _ HS.out (by omega) (by omega)).mono ?_
  rintro e w3 ⟨a, cap, ms, rfl, ho, hl, hf, s3, g3⟩
  have HO := Lib.hid (own_slice Mem.enc_len ho rfl)
  have HBK := Lib.hid (own_block' ho)
  have HF := Lib.hid hf
  replace HS := Lib.hid s3
  replace V0 := Lib.hid (V0.out.grown g3 (by simp))
  replace hb := hb.trans (below_row g3 (by omega) (by omega))
  have hz3 := g3.size
  clear ho hf s3 g3
  have hx : Below w3.heap.size w3 (w3.alloc (.cells #[.slice a ms.length cap] 26)) := (Below.refl _ _).alloc (Nat.le_refl _) _
  have V1 := Lib.hid (VarAt.new w3 26 [.slice a ms.length cap])
  replace HS := Lib.hid (HS.out.kept hx)
  replace HO := Lib.hid (HO.out.kept hx)
  replace V0 := Lib.hid (V0.out.kept hx)
  replace hb := hb.trans (hx.mono hb.size)
  clear hx
  generalize hB : w3.heap.size = B1 at *
  obtain ⟨w4, hw4⟩ : ∃ w4, w3.alloc (.cells #[.slice a ms.length cap] 26) = w4 := ⟨_, rfl⟩
  rw [hw4] at V1 HS hb HO V0
  have hz4 := V1.out.lt
  have HDR := Lib.hid (l26DrawResultT_any ms a cap B1 _ _ _ w4 HS.out (by omega) (by omega) (V1.out.cell (i := 0) rfl) ⟨by omega, hz4⟩ HO.out (fun x hx => by have := HBK.out x hx; omega) HF.out (by omega))
  go_wp2_with fail
  refine HDR.out.mono ?_
  rintro e w5 ⟨r, rfl, hr, s5, g5⟩
  replace V0 := Lib.hid (V0.out.grown g5 (by simp))
  replace hb := hb.trans (below_row g5 (by omega) hb.size)
  have HR := Lib.hid hr.fit
  clear hr s5 g5 HDR HS HO V1 hw4
  have d0 := V0.out.cell (i := 0) rfl
  have d1 := V0.out.cell (i := 1) rfl
  have d2 := V0.out.cell (i := 2) rfl
  have d3 := V0.out.cell (i := 3) rfl
  have f0 := V0.out.free 0
  have f1 := V0.out.free 1
  have f2 := V0.out.free 2
  have f3 := V0.out.free 3
  obtain ⟨o0, g0⟩ := V0.out.set 0 (.string r.a)
  obtain ⟨o1, g1⟩ := o0.set 1 (.string r.b)
  obtain ⟨o2, g2⟩ := o1.set 2 (.int .i64 r.sa)
  obtain ⟨o3, g3⟩ := o2.set 3 (.int .i64 r.sb)
  have GG := grownBy_trans (grownBy_trans (grownBy_trans g0 g1) g2) g3
  have e0 := o3.cell (i := 0) (v := .string r.a) rfl
  have e1 := o3.cell (i := 1) (v := .string r.b) rfl
  have e2 := o3.cell (i := 2) (v := .int .i64 r.sa) rfl
  have e3 := o3.cell (i := 3) (v := .int .i64 r.sb) rfl
  replace hb := hb.trans (below_row GG (Nat.le_refl _) hb.size)
  clear o0 o1 o2 o3 g0 g1 g2 g3 GG V0
  go_wp2
  refine bodyPost_ret (v := .agg #[.string r.a, .string r.b, .int .i64 r.sa, .int .i64 r.sb]) (by simp [results, Tryz.results10, go_sem, e0, e1, e2, e3]) rfl ?_
  exact ⟨r, rfl, HR.out, hb⟩
set_option maxRecDepth 100000 in
set_option maxHeartbeats 2000000 in
theorem DrawReadResult_any (ca : Option Addr) (ccap : Nat) (bs : List Int) (w : World) (hc : CodeAt w w.heap.size ca bs) : Calls Tryz.prog 13 #[.slice ca bs.length ccap] w (TextOut 20000 w) := by
  have HC := Lib.hid hc
  clear hc
  go_enter Tryz.func13, Tryz.ntmps13
  go_wp2_with fail
  refine (l00From_any ca ccap bs _ HC.out).mono ?_
  rintro e w2 ⟨rfl, h2, s2, hz2⟩
  have HS := Lib.hid s2
  have hb := h2
  clear h2 s2 HC
  go_wp2_with fail
  refine (l26DrawT_any _ _ _ _ HS.out (by omega) (by omega)).mono ?_
  rintro e w3 ⟨a, cap, ms, rfl, ho, hl, hf, s3, g3⟩
  have HO := Lib.hid (own_slice Mem.enc_len ho rfl)
  have HBK := Lib.hid (own_block' ho)
  have HF := Lib.hid hf
  replace HS := Lib.hid s3
  replace hb := hb.trans (below_row g3 (Nat.le_refl _) (by omega))
  have hz3 := g3.size
  clear ho hf s3 g3
  have hx : Below w3.heap.size w3 (w3.alloc (.cells #[.slice a ms.length cap] 26)) := (Below.refl _ _).alloc (Nat.le_refl _) _
  have V1 := Lib.hid (VarAt.new w3 26 [.slice a ms.length cap])
  replace HS := Lib.hid (HS.out.kept hx)
  replace HO := Lib.hid (HO.out.kept hx)
  replace hb := hb.trans (hx.mono hb.size)
  clear hx
  generalize hB : w3.heap.size = B1 at *
  obtain ⟨w4, hw4⟩ : ∃ w4, w3.alloc (.cells #[.slice a ms.length cap] 26) = w4 := ⟨_, rfl⟩
  rw [hw4] at V1 HS hb HO
  have hz4 := V1.out.lt
  have HDR := Lib.hid (l26DrawResultT_any ms a cap B1 _ _ _ w4 HS.out (by omega) (by omega) (V1.out.cell (i := 0) rfl) ⟨by omega, hz4⟩ HO.out (fun x hx => by have := HBK.out x hx; omega) HF.out (by omega))
  go_wp2_with fail
  refine HDR.out.mono ?_
  rintro e w5 ⟨r, rfl, hr, s5, g5⟩
  replace HS := Lib.hid s5
  replace hb := hb.trans (below_row g5 (Nat.le_refl _) hb.size)
  have hz5 := g5.size
  have HR := Lib.hid hr
  clear hr s5 g5 HDR HO V1 hw4
  have hx : Below w5.heap.size w5 (w5.alloc (.cells #[.string r.a, .string r.b, .int .i64 r.sa, .int .i64 r.sb] 33)) := (Below.refl _ _).alloc (Nat.le_refl _) _
  have HRA := Lib.hid (new_res w5 r 33)
  replace HS := Lib.hid (HS.out.kept hx)
  replace hb := hb.trans (hx.mono hb.size)
  clear hx
  have hrl := resT_len HR.out
  go_wp2_with fail
  refine (l26ResultText_any r _ 0 _ HRA.out HR.out.small).mono ?_
  rintro e w6 ⟨rfl, hd⟩
  replace HS := Lib.hid (HS.out.kept hd)
  replace hb := hb.trans (hd.mono hb.size)
  clear hd HRA
  go_wp2_with fail
  refine (l01Spoil_any (mkB (resultL r)) _ _ _ _ HS.out (by omega) (by rw [mkB_size]; omega)).mono ?_
  rintro e w7 ⟨u, rfl, hu, s6, g6⟩
  rw [mkB_size] at hu
  replace hb := hb.trans (below_row g6 (Nat.le_refl _) hb.size)
  clear s6 g6 HS
  go_wp2
  go_ret
  exact ⟨u, rfl, by omega, hb⟩
theorem rnm_fit {x : ByteArray} (h : x ∈ ([⟨#[97, 120]⟩, ⟨#[98, 120]⟩, ⟨#[99, 120]⟩, ⟨#[122, 122]⟩, ⟨#[]⟩] : List ByteArray)) : x.size ≤ 2 := by
  simp only [List.mem_cons, List.not_mem_nil, or_false] at h
  rcases h with rfl | rfl | rfl | rfl | rfl <;> decide
set_option maxRecDepth 100000 in
set_option maxHeartbeats 4000000 in
theorem DrawRatingOf_any (ca : Option Addr) (ccap : Nat) (bs : List Int) (w : World) (hc : CodeAt w w.heap.size ca bs) : Calls Tryz.prog 15 #[.slice ca bs.length ccap] w (RateOut w) := by
  have hb0 : Below w.heap.size w (w.alloc (.cells #[.slice none 0 0] 26)) := (Below.refl _ _).alloc (Nat.le_refl _) _
  have hz1 : (w.alloc (.cells #[.slice none 0 0] 26)).heap.size = w.heap.size + 1 := by simp
  have V0 := Lib.hid (VarAt.new w 26 [.slice none 0 0])
  have HC : Hid (CodeAt (w.alloc (.cells #[.slice none 0 0] 26)) (w.alloc (.cells #[.slice none 0 0] 26)).heap.size ca bs) := by
    obtain ⟨c1, c2, c3, c4⟩ := hc
    exact Lib.hid ⟨c1.kept hb0, c2, c3, fun h0 cb co e => by have := c4 h0 cb co e; omega⟩
  clear hc
  go_enter Tryz.func15, Tryz.ntmps15
  go_wp2_with fail
  refine (l00From_any ca ccap bs _ HC.out).mono ?_
  rintro e w2 ⟨rfl, h2, s2, hz2⟩
  rw [hz1] at s2 hz2 ⊢
  have HS := Lib.hid s2
  replace V0 := Lib.hid (V0.out.kept h2)
  have hb := hb0.trans (h2.mono hb0.size)
  clear h2 s2 HC hb0 hz1
  go_wp2_with fail
  refine (l26Bent_any _ _ _ _ HS.out (by omega) (by omega)).mono ?_
  rintro e w3 ⟨a, cap, ms, rfl, ho, hl, hf, s3, g3⟩
  have HO := Lib.hid (own_slice Mem.enc_len ho rfl)
  have HBK := Lib.hid (own_block' ho)
  have HF := Lib.hid hf
  replace HS := Lib.hid s3
  replace V0 := Lib.hid (V0.out.grown g3 (by simp))
  replace hb := hb.trans (below_row g3 (by omega) (by omega))
  have hz3 := g3.size
  clear ho hf s3 g3
  have hx : Below w3.heap.size w3 (w3.alloc (.cells #[.slice a ms.length cap] 26)) := (Below.refl _ _).alloc (Nat.le_refl _) _
  have V1 := Lib.hid (VarAt.new w3 26 [.slice a ms.length cap])
  replace HS := Lib.hid (HS.out.kept hx)
  replace HO := Lib.hid (HO.out.kept hx)
  replace V0 := Lib.hid (V0.out.kept hx)
  replace hb := hb.trans (hx.mono hb.size)
  clear hx
  generalize hB : w3.heap.size = B1 at *
  obtain ⟨w4, hw4⟩ : ∃ w4, w3.alloc (.cells #[.slice a ms.length cap] 26) = w4 := ⟨_, rfl⟩
  rw [hw4] at V1 HS hb HO V0
  have hz4 := V1.out.lt
  go_upto_region 3 with fail
  clear hw4 hB
  have hd : Below w4.heap.size w4 w4.drew := (Below.refl _ _).drew
  have c1 := V1.out.cell (i := 0) rfl
  have n1 := World.new_ne w4 _ c1
  have d0 := V0.out.cell (i := 0) rfl
  have f0 := V0.out.free 0
  replace HS := Lib.hid (HS.out.kept hd)
  replace HO := Lib.hid (HO.out.kept hd)
  replace V0 := Lib.hid (V0.out.kept hd)
  replace V1 := Lib.hid (V1.out.kept hd)
  replace hb := hb.trans (hd.mono hb.size)
  have hsz : w4.drew.heap.size = w4.heap.size := rfl
  clear hd
  have hcn := cells_new (enc := Str.enc) (fun _ => rfl) w4.drew [⟨#[97, 120]⟩, ⟨#[98, 120]⟩, ⟨#[99, 120]⟩, ⟨#[122, 122]⟩, ⟨#[]⟩] 9
  have hx : Below w4.drew.heap.size w4.drew (w4.drew.alloc (.cells #[.string ⟨#[97, 120]⟩, .string ⟨#[98, 120]⟩, .string ⟨#[99, 120]⟩, .string ⟨#[122, 122]⟩, .string ⟨#[]⟩] 9)) := (Below.refl _ _).alloc (Nat.le_refl _) _
  have HSX := Lib.hid (HS.out.kept hx)
  have HCN := Lib.hid hcn
  have HX := Lib.hid hx
  have l1 := V1.out.lt
  rw [hsz] at l1
  clear hcn hx
  go_region_law
    ((go_simp; go_at_call 45; refine (text_any [⟨#[97, 120]⟩, ⟨#[98, 120]⟩, ⟨#[99, 120]⟩, ⟨#[122, 122]⟩, ⟨#[]⟩] w4.heap.size 5 _ _ _ _ HSX.out (by omega) HCN.out (by decide) (by decide) (by omega)).mono ?_; rintro e w5 ⟨nm, hnm, rfl, s5, g5⟩; replace hb := (hb.trans (HX.out.mono hb.size)).trans (below_row g5 (by omega) (by have := HX.out.size; omega)); replace V0 := Lib.hid ((V0.out.kept HX.out).grown g5 (by simp)); replace V1 := Lib.hid ((V1.out.kept HX.out).grown g5 (by simp; omega)); replace HO := Lib.hid ((HO.out.kept HX.out).grown g5 (fun x hx => by have := HBK.out x hx; simp; omega)); have HQ := Lib.hid (rnm_fit hnm); replace c1 := V1.out.cell (i := 0) rfl; replace d0 := V0.out.cell (i := 0) rfl; replace f0 := V0.out.free 0; clear s5 g5 hnm))
  all_goals
    obtain ⟨o7, g7⟩ := V0.out.set 0 (.slice a ms.length cap)
    have e0 := o7.cell (i := 0) (v := .slice a ms.length cap) rfl
    replace HO := Lib.hid (HO.out.grown g7 (fun x hx => by have := HBK.out x hx; simp; omega))
    replace hb := hb.trans (below_row g7 (Nat.le_refl _) hb.size)
    clear o7 g7
    go_wp2
    refine bodyPost_ret (v := .tuple #[.agg #[.slice a ms.length cap], .string nm]) (by simp [results, Tryz.results15, go_sem, e0]) rfl ?_
    exact ⟨a, cap, ms, nm, rfl, HO.out, hl, HF.out, HQ.out, hb⟩
end Go.Proofs.YtlbnjdgfggiifaaGreatDoor
