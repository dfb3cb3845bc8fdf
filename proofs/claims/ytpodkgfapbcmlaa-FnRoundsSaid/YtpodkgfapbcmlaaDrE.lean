/- Contract: the reference's draw of a club and results. Nothing is said of them but that they can be read. -/
import Derived.Test.YtpodkgfapbcmlaaDrC
import Derived.Test.YtpodkgfapbcmlaaDrD
namespace Go.Proofs.Ytpodkgfapbcmlaa
open Go.ChangeShapes Go.WideShapes Go.ChangeAt Go.RowKit Go.Sort

theorem SliceAt.cells {α : Type} {enc : α → List Value} {sz : Nat} {w : World} {b o : Nat} {xs : List α} (h : SliceAt w sz enc (some ⟨b, o, none⟩) xs) : CellsAt w sz enc b o xs := by
  rcases h with rfl | ⟨b', o', e, hc⟩
  · intro i hi
    simp at hi
  · simp only [Option.some.injEq, Addr.mk.injEq, and_true] at e
    obtain ⟨rfl, rfl⟩ := e
    exact hc
theorem new_news (w : World) (cs : List Value) (t : TypeId) : ∀ j u, cs[j]? = some u → (w.alloc (.cells cs.toArray t)).cell? ((⟨w.heap.size, 0, none⟩ : Addr).add j) = some u := by
  intro j u hu
  rw [Go.Addr.add_lit, Nat.zero_add]
  exact cell_new0 w cs.toArray t (by simpa using hu)
theorem res_one (r : Res) : ∀ u ∈ Res.enc r, u.oneCell' = true := by
  intro u hu
  simp only [Res.enc, List.mem_cons, List.not_mem_nil, or_false] at hu
  rcases hu with rfl | rfl | rfl | rfl <;> rfl
theorem resFit_snoc {rs : List Res} (h : ResFit rs) (r : Res) (hr : r.fit) : ResFit (rs ++ [r]) := by
  intro x hx
  rcases List.mem_append.1 hx with hx | hx
  · exact h x hx
  · rw [List.mem_singleton] at hx
    subst hx
    exact hr
theorem own_block {w : World} {base : Nat} {e : TypeId} {sz n cap : Nat} {a : Option Addr} {L : List Value} (h : w.ownsRow base e sz (.slice a n cap) n L) : ∀ x, a = some x → base ≤ x.block ∧ x.block < w.heap.size := by
  rintro x rfl
  rcases h.2 with ⟨h0, _⟩ | ⟨g, c, _, h0, _⟩
  · simp at h0
  · simp only [Value.slice.injEq, Option.some.injEq] at h0
    have := h.lt g (by rw [h0.1]; rfl)
    rw [h0.1]
    exact this
theorem own_nil2 {w : World} {base : Nat} {e : TypeId} {sz n cap : Nat} {a : Option Addr} {ms : List Mem} {L : List Value} (h : w.ownsRow base e sz (.slice a n cap) n L) (hn : n = ms.length) : a = none → ms = [] ∧ cap = 0 := by
  rintro rfl
  rcases h.2 with ⟨h0, h1⟩ | ⟨g, c, _, h0, _⟩
  · simp only [Value.slice.injEq] at h0
    exact ⟨List.length_eq_zero_iff.1 (by omega), h0.2.2⟩
  · simp at h0
theorem own_apart {w : World} {B : Nat} {e' : TypeId} {sz' n' : Nat} {v v' : Value} {L' : List Value} (hx : ∀ g, v.ownBlock = some g → g < B) (hr : w.ownsRow (B + 1) e' sz' v' n' L') : v.ownBlock = none ∨ v.ownBlock ≠ v'.ownBlock := by
  cases hv : v.ownBlock with
  | none => exact .inl rfl
  | some g => exact .inr (fun e => by have := hx g hv; have := (hr.lt g e.symm).1; omega)
/-- a club and results that were drawn -/
def AllDrawn (w : World) (e : Ending) (w' : World) : Prop :=
  ∃ (a : Option Addr) (cap : Nat) (ms : List Mem) (ra : Option Addr) (rcap : Nat) (rs : List Res), e = .returned (.tuple #[.agg #[.slice a ms.length cap], .slice ra rs.length rcap]) ∧ SliceAt w' 2 Mem.enc a ms ∧ SliceAt w' 4 Res.enc ra rs ∧ (a = none → ms = [] ∧ cap = 0) ∧
    ms.length ≤ 13 ∧ rs.length ≤ 1000 ∧ MemsFit ms ∧ ResFit rs ∧ (∀ x, a = some x → w.heap.size ≤ x.block) ∧ (∀ x, ra = some x → w.heap.size ≤ x.block) ∧ Below w.heap.size w w'

set_option maxRecDepth 100000 in
set_option maxHeartbeats 8000000 in
theorem l26All_any (ca : Option Addr) (ccap : Nat) (bs : List Int) (w : World) (hc : CodeAt w w.heap.size ca bs) :
    Calls Try.prog 88 #[.slice ca bs.length ccap] w (AllDrawn w) := by
  obtain ⟨i0, hi0, hi1, hi2, hi3⟩ := info_parts infoMember
  obtain ⟨j0, hj0, hj1, hj2, hj3⟩ := info_parts infoResult
  have hb : Below w.heap.size w (w.alloc (.cells #[.slice none 0 0] 30)) := (Below.refl _ _).alloc (Nat.le_refl _) _
  have V0 := Lib.hid (VarAt.new w 30 [.slice none 0 0])
  have hc1 : CodeAt (w.alloc (.cells #[.slice none 0 0] 30)) (w.alloc (.cells #[.slice none 0 0] 30)).heap.size ca bs := by
    obtain ⟨c1, c2, c3, c4⟩ := hc
    exact ⟨c1.kept hb, c2, c3, fun h0 cb co e => by have := c4 h0 cb co e; simp; omega⟩
  have HC := Lib.hid hc1
  clear hc hc1
  go_enter Try.func88, Try.ntmps88
  go_wp2_with fail
  refine (l00From_any ca ccap bs _ HC.out).mono ?_
  rintro e w2 ⟨rfl, h2, s2, hz2⟩
  simp only [World.size_alloc] at s2 hz2 ⊢
  have HS := Lib.hid s2
  replace V0 := Lib.hid (V0.out.kept h2)
  replace hb := hb.trans (h2.mono hb.size)
  clear h2 s2 HC
  go_wp2_with fail
  refine (l26Bent_any (w.heap.size + 1 + 1) (w.heap.size + 1) 0 w2 HS.out (by omega) (by omega)).mono ?_
  rintro e w3 ⟨a, cap, ms, rfl, ho, hl, hf, s3, g3⟩
  rw [hz2] at ho
  have hz3 : w.heap.size + 1 + 1 ≤ w3.heap.size := by have := g3.size; omega
  have HO := Lib.hid ho
  have HF := Lib.hid hf
  replace HS := Lib.hid s3
  replace V0 := Lib.hid (V0.out.grown g3 (by simp))
  replace hb := hb.trans (below_row g3 (Nat.le_succ _) (by omega))
  clear ho hf s3 g3 hz2
  have hx : Below w3.heap.size w3 (w3.alloc (.cells #[.slice a ms.length cap] 30)) := (Below.refl _ _).alloc (Nat.le_refl _) _
  have HN := Lib.hid (own_nil2 HO.out rfl)
  have HB := Lib.hid (own_block HO.out)
  have V1 := Lib.hid (VarAt.new w3 30 [.slice a ms.length cap])
  replace HS := Lib.hid (HS.out.kept hx)
  replace V0 := Lib.hid (V0.out.kept hx)
  replace hb := hb.trans (hx.mono hb.size)
  replace HO := Lib.hid (own_below HO.out hx)
  have HX : Hid (∀ g, (Value.slice a ms.length cap).ownBlock = some g → g < w3.heap.size) := Lib.hid (fun g e => by
    obtain ⟨x, rfl⟩ : ∃ x, a = some x := by cases a with | none => simp [Value.ownBlock] at e | some x => exact ⟨x, rfl⟩
    have e2 := HB.out x rfl
    have e3 : x.block = g := by simpa [Value.ownBlock] using e
    omega)
  clear hx
  generalize hB : w3.heap.size = B1 at *
  have hx : Below (w3.alloc (.cells #[.slice a ms.length cap] 30)).heap.size (w3.alloc (.cells #[.slice a ms.length cap] 30)) ((w3.alloc (.cells #[.slice a ms.length cap] 30)).alloc (.cells #[] 39)) := (Below.refl _ _).alloc (Nat.le_refl _) _
  have HR := Lib.hid (World.ownsRow_made (base := B1 + 1) (e := 39) (size := 4) (w3.alloc (.cells #[.slice a ms.length cap] 30)) #[] 0 (by simp; omega) (by unfold maxLen; omega) rfl)
  replace HS := Lib.hid (HS.out.kept hx)
  replace V0 := Lib.hid (V0.out.kept hx)
  replace V1 := Lib.hid (V1.out.kept hx)
  replace hb := hb.trans (hx.mono hb.size)
  replace HO := Lib.hid (own_below HO.out hx)
  simp only [World.size_alloc, hB] at HR
  clear hx
  go_wp2_with fail
  clear hB
  refine (pick_any 10 _ _ _ _ HS.out (by omega)).mono ?_
  rintro e w4 ⟨x, ⟨x0, x1, _, _⟩, rfl, s4, g4⟩
  have x10 : x < 10 := x1 (by omega)
  clear x1
  replace HS := Lib.hid s4
  replace hb := hb.trans (below_row g4 (Nat.le_succ _) (by have := V0.out.lt; omega))
  replace V0 := Lib.hid (V0.out.grown g4 (by simp))
  replace V1 := Lib.hid (V1.out.grown g4 (by simp; omega))
  replace HO := Lib.hid (HO.out.kept g4 (.inr (fun e => by have := (HO.out.lt _ e).1; omega)))
  replace HR := Lib.hid (HR.out.kept g4 (.inr (fun e => by have := (HR.out.lt _ e).1; omega)))
  clear s4 g4
  have HRF : Hid (ResFit []) := Lib.hid (fun r h => by cases h)
  go_wp2_with fail
  go_loopw [7, 6] (fun iv ov wr => ∃ (z : Int) (ra : Option Addr) (rcap : Nat) (rs : List Res), 0 ≤ z ∧ iv = .int .i64 z ∧ z + rs.length = x ∧ ov = .slice ra rs.length rcap ∧ Hid (VarAt wr w.heap.size 30 [.slice none 0 0]) ∧ Hid (VarAt wr B1 30 [.slice a ms.length cap]) ∧
    Hid (wr.ownsRow (w.heap.size + 1 + 1) 56 2 (.slice a ms.length cap) ms.length (ms.flatMap Mem.enc)) ∧ Hid (wr.ownsRow (B1 + 1) 39 4 (.slice ra rs.length rcap) rs.length (rs.flatMap Res.enc)) ∧ Hid (ResFit rs) ∧ Hid (SrcAt wr (w.heap.size + 1 + 1) (w.heap.size + 1) (202 + 20 * rs.length)) ∧ Below w.heap.size w wr) (fun iv _ _ => (intOf iv).toNat)
  case atStart => exact ⟨x, _, _, [], x0, rfl, by simp, rfl, V0, V1, HO, HR, HRF, Lib.hid HS.out, hb⟩
  case round =>
    clear V0 V1 HO HR HRF HS hb
    obtain ⟨z, ra, rcap, rs, hz0, rfl, hzn, rfl, V0, V1, HO, HR, HRF, HS, hb⟩ := hrel
    have hsz : w.heap.size + 2 ≤ wr.heap.size := by have := V1.out.lt; omega
    by_cases hlt : 0 < z
    · go_wp2_with fail
      refine (l26DrawResult_any ms a cap B1 _ _ _ wr HS.out (by omega) (by omega) (V1.out.cell (i := 0) rfl) ⟨by omega, V1.out.lt⟩ (own_slice Mem.enc_len HO.out rfl) (fun y hy => by have := own_block HO.out y hy; omega) HF.out (by omega)).mono ?_
      rintro e w5 ⟨rr, rfl, hq, s4, g4⟩
      replace HS := Lib.hid s4
      replace hb := hb.trans (below_row g4 (Nat.le_succ _) (by have := V0.out.lt; omega))
      replace V0 := Lib.hid (V0.out.grown g4 (by simp))
      replace V1 := Lib.hid (V1.out.grown g4 (by simp; omega))
      replace HO := Lib.hid (HO.out.kept g4 (.inr (fun e => by have := (HO.out.lt _ e).1; omega)))
      replace HR := Lib.hid (HR.out.kept g4 (.inr (fun e => by have := (HR.out.lt _ e).1; omega)))
      have HQ := Lib.hid hq
      clear s4 g4 hq hsz
      have hx : Below w5.heap.size w5 (w5.alloc (.cells #[.string rr.a, .string rr.b, .int .i64 rr.sa, .int .i64 rr.sb] 39)) := (Below.refl _ _).alloc (Nat.le_refl _) _
      have KN := Lib.hid (new_news w5 (Res.enc rr) 39)
      have hza : B1 + 1 ≤ w5.heap.size := V1.out.lt
      replace HS := Lib.hid (HS.out.kept hx)
      replace hb := hb.trans ((hx).mono hb.size)
      replace V0 := Lib.hid (V0.out.kept hx)
      replace V1 := Lib.hid (V1.out.kept hx)
      replace HO := Lib.hid (own_below HO.out hx)
      replace HR := Lib.hid (own_below HR.out hx)
      clear hx
      go_wp2_with (at_builtin; go_must (refine wpList_append_own _ rfl (.tmp 20) (.tmp 23) 47 rfl (B1 + 1) 39 j0 _ 4 48 Try.underlying47 hj0 hj1 hj2 hj3 rfl (by decide) _ rs.length (rs.flatMap Res.enc) rfl HR.out ⟨w5.heap.size, 0, none⟩ 1 1 (Res.enc rr) rfl rfl KN.out (res_one rr) ?c1 ?c2 ?c3 ?_))
      case c1 => unfold maxLen; omega
      case c2 => omega
      case c3 => (try simp); omega
      intro v' w6 hown6 hgr6 _
      obtain ⟨a6, cap6, rfl⟩ := own_shape hown6
      have HL6 : Hid ((rs ++ [rr]).length = rs.length + 1) := Lib.hid (by simp)
      have HF6 := Lib.hid (resFit_snoc HRF.out rr HQ.out)
      replace HS := Lib.hid (HS.out.grown hgr6 (fun g e => by have := (HR.out.lt g e).1; omega))
      replace V0 := Lib.hid (V0.out.grown hgr6 (own_ne HR.out (by omega)))
      replace V1 := Lib.hid (V1.out.grown hgr6 (own_ne HR.out (by omega)))
      replace hb := hb.grown hgr6 hb.size (fun g e => by have := (HR.out.lt g e).1; omega)
      replace HO := Lib.hid (HO.out.kept hgr6 (own_apart HX.out HR.out))
      replace HR := Lib.hid (own_as hown6 (flat_snoc Res.enc rs _))
      clear hown6 hgr6 KN HRF HQ
      go_wp2
      go_roundw
      case rel =>
        refine ⟨z - 1, a6, cap6, rs ++ [rr], by omega, by go_num, by rw [HL6.out]; omega, by rw [HL6.out], V0, V1, HO, ?_, HF6, Lib.hid (HS.out.mono (Nat.le_refl _) (by rw [HL6.out]; omega)), hb⟩
        rw [HL6.out]; exact HR
      case measure => simp [intOf]; omega
    · go_wp2_with fail
      refine (one_any 30 _ _ _ wr HS.out (by omega)).mono ?_
      rintro e w5 ⟨y, rfl, s4, g4⟩
      replace HS := Lib.hid s4
      replace hb := hb.trans (below_row g4 (Nat.le_succ _) (by have := V0.out.lt; omega))
      replace V0 := Lib.hid (V0.out.grown g4 (by simp))
      replace V1 := Lib.hid (V1.out.grown g4 (by simp; omega))
      replace HO := Lib.hid (HO.out.kept g4 (.inr (fun e => by have := (HO.out.lt _ e).1; omega)))
      replace HR := Lib.hid (HR.out.kept g4 (.inr (fun e => by have := (HR.out.lt _ e).1; omega)))
      clear s4 g4 hsz
      by_cases hy : y = true ∧ 0 < ms.length
      · obtain ⟨rfl, h0⟩ := hy
        have d1 := V1.out.cell (i := 0) rfl
        obtain ⟨ab, ao, rfl, hcs⟩ := (own_slice Mem.enc_len HO.out rfl).open h0
        have hfa := HF.out.at h0
        have HFA := Lib.hid hfa
        clear hcs hfa
        go_wp2_with fail
        refine (pick_any 2 _ _ _ w5 HS.out (by omega)).mono ?_
        rintro e w6 ⟨p, ⟨p0, p1, _, _⟩, rfl, s4, g4⟩
        have p2 : p < 2 := p1 (by omega)
        replace HR := Lib.hid (World.ownsRow_nil w5 (B1 + 1) 39 4)
        replace HS := Lib.hid s4
        replace hb := hb.trans (below_row g4 (Nat.le_succ _) (by have := V0.out.lt; omega))
        replace V0 := Lib.hid (V0.out.grown g4 (by simp))
        replace V1 := Lib.hid (V1.out.grown g4 (by simp; omega))
        replace HO := Lib.hid (HO.out.kept g4 (.inr (fun e => by have := (HO.out.lt _ e).1; omega)))
        replace HR := Lib.hid (HR.out.kept g4 (.inr (fun e => by have := (HR.out.lt _ e).1; omega)))
        clear s4 g4 p1 d1 HRF
        have HRF : Hid (ResFit []) := Lib.hid (fun r h => by cases h)
        have hrl : rs.length ≤ 9 := by omega
        clear hzn hz0 hlt
        go_wp2_with fail
        go_loopw [8, 6] (fun iv ov wr => ∃ (z : Int) (ra : Option Addr) (rcap : Nat) (rs : List Res), 0 ≤ z ∧ iv = .int .i64 z ∧ z + rs.length = 200 + p ∧ ov = .slice ra rs.length rcap ∧ Hid (VarAt wr w.heap.size 30 [.slice none 0 0]) ∧ Hid (VarAt wr B1 30 [.slice (some ⟨ab, ao, none⟩) ms.length cap]) ∧
          Hid (wr.ownsRow (w.heap.size + 1 + 1) 56 2 (.slice (some ⟨ab, ao, none⟩) ms.length cap) ms.length (ms.flatMap Mem.enc)) ∧ Hid (wr.ownsRow (B1 + 1) 39 4 (.slice ra rs.length rcap) rs.length (rs.flatMap Res.enc)) ∧ Hid (ResFit rs) ∧ Hid (SrcAt wr (w.heap.size + 1 + 1) (w.heap.size + 1) 1000) ∧ Below w.heap.size w wr) (fun iv _ _ => (intOf iv).toNat)
        case atStart => exact ⟨_, _, _, [], by omega, rfl, by simp, rfl, V0, V1, HO, HR, HRF, Lib.hid (HS.out.mono (Nat.le_refl _) (by omega)), hb⟩
        case round =>
          clear V0 V1 HO HR HRF HS hb
          obtain ⟨z, ra, rcap, rs, hz0, rfl, hzn, rfl, V0, V1, HO, HR, HRF, HS, hb⟩ := hrel
          by_cases hlt : 0 < z
          · have d1 := V1.out.cell (i := 0) rfl
            have q0 := (own_slice Mem.enc_len HO.out rfl).cells.at0 h0 rfl
            rw [Nat.zero_mul, Nat.add_zero] at q0
            have HQ : Hid (⟨ms[0].name, ⟨#[]⟩, 0, 0⟩ : Res).fit := Lib.hid ⟨HFA.out, emp_fit⟩
            have hx : Below wr.heap.size wr (wr.alloc (.cells #[.string (⟨ms[0].name, ⟨#[]⟩, 0, 0⟩ : Res).a, .string (⟨ms[0].name, ⟨#[]⟩, 0, 0⟩ : Res).b, .int .i64 (⟨ms[0].name, ⟨#[]⟩, 0, 0⟩ : Res).sa, .int .i64 (⟨ms[0].name, ⟨#[]⟩, 0, 0⟩ : Res).sb] 39)) := (Below.refl _ _).alloc (Nat.le_refl _) _
            have KN := Lib.hid (new_news wr (Res.enc (⟨ms[0].name, ⟨#[]⟩, 0, 0⟩ : Res)) 39)
            have hza : B1 + 1 ≤ wr.heap.size := V1.out.lt
            replace HS := Lib.hid (HS.out.kept hx)
            replace hb := hb.trans ((hx).mono hb.size)
            replace V0 := Lib.hid (V0.out.kept hx)
            replace V1 := Lib.hid (V1.out.kept hx)
            replace HO := Lib.hid (own_below HO.out hx)
            replace HR := Lib.hid (own_below HR.out hx)
            clear hx
            go_wp2_with (at_builtin; go_must (refine wpList_append_own _ rfl (.tmp 40) (.tmp 47) 47 rfl (B1 + 1) 39 j0 _ 4 48 Try.underlying47 hj0 hj1 hj2 hj3 rfl (by decide) _ rs.length (rs.flatMap Res.enc) rfl HR.out ⟨wr.heap.size, 0, none⟩ 1 1 (Res.enc (⟨ms[0].name, ⟨#[]⟩, 0, 0⟩ : Res)) rfl rfl KN.out (res_one (⟨ms[0].name, ⟨#[]⟩, 0, 0⟩ : Res)) ?c1 ?c2 ?c3 ?_))
            case c1 => unfold maxLen; omega
            case c2 => omega
            case c3 => (try simp); omega
            intro v' w6 hown6 hgr6 _
            obtain ⟨a6, cap6, rfl⟩ := own_shape hown6
            have HL6 : Hid ((rs ++ [(⟨ms[0].name, ⟨#[]⟩, 0, 0⟩ : Res)]).length = rs.length + 1) := Lib.hid (by simp)
            have HF6 := Lib.hid (resFit_snoc HRF.out (⟨ms[0].name, ⟨#[]⟩, 0, 0⟩ : Res) HQ.out)
            replace HS := Lib.hid (HS.out.grown hgr6 (fun g e => by have := (HR.out.lt g e).1; omega))
            replace V0 := Lib.hid (V0.out.grown hgr6 (own_ne HR.out (by omega)))
            replace V1 := Lib.hid (V1.out.grown hgr6 (own_ne HR.out (by omega)))
            replace hb := hb.grown hgr6 hb.size (fun g e => by have := (HR.out.lt g e).1; omega)
            replace HO := Lib.hid (HO.out.kept hgr6 (own_apart HX.out HR.out))
            replace HR := Lib.hid (own_as hown6 (flat_snoc Res.enc rs _))
            clear hown6 hgr6 KN HRF HQ
            go_wp2
            go_roundw
            case rel =>
              refine ⟨z - 1, a6, cap6, rs ++ [⟨ms[0].name, ⟨#[]⟩, 0, 0⟩], by omega, by go_num, by rw [HL6.out]; omega, by rw [HL6.out], V0, V1, HO, ?_, HF6, HS, hb⟩
              rw [HL6.out]; exact HR
            case measure => simp [intOf]; omega
          · have d1 := V1.out.cell (i := 0) rfl
            have d0 := V0.out.cell (i := 0) rfl
            have f0 := V0.out.free 0
            obtain ⟨o7, g7⟩ := V0.out.set 0 (.slice (some ⟨ab, ao, none⟩) ms.length cap)
            have e0 := o7.cell (i := 0) (v := .slice (some ⟨ab, ao, none⟩) ms.length cap) rfl
            replace HO := Lib.hid (HO.out.kept g7 (.inr (own_en HO.out (by omega))))
            replace HR := Lib.hid (HR.out.kept g7 (.inr (own_en HR.out (by omega))))
            replace hb := hb.trans (below_row g7 (Nat.le_refl _) hb.size)
            clear o7 g7
            go_wp2
            refine bodyPost_ret (v := .tuple #[.agg #[.slice (some ⟨ab, ao, none⟩) ms.length cap], .slice ra rs.length rcap]) (by simp [results, Try.results88, go_sem, e0]) rfl ?_
            exact ⟨(some ⟨ab, ao, none⟩), cap, ms, ra, rcap, rs, rfl, own_slice Mem.enc_len HO.out rfl, own_slice Res.enc_len HR.out rfl, HN.out, hl, by omega, HF.out, HRF.out, (fun y hy => by have := (own_block HO.out y hy).1; omega), (fun y hy => by have := (own_block HR.out y hy).1; omega), hb⟩
      · cases y with
        | false =>
          have d1 := V1.out.cell (i := 0) rfl
          have d0 := V0.out.cell (i := 0) rfl
          have f0 := V0.out.free 0
          obtain ⟨o7, g7⟩ := V0.out.set 0 (.slice a ms.length cap)
          have e0 := o7.cell (i := 0) (v := .slice a ms.length cap) rfl
          replace HO := Lib.hid (HO.out.kept g7 (.inr (own_en HO.out (by omega))))
          replace HR := Lib.hid (HR.out.kept g7 (.inr (own_en HR.out (by omega))))
          replace hb := hb.trans (below_row g7 (Nat.le_refl _) hb.size)
          clear o7 g7
          go_wp2
          refine bodyPost_ret (v := .tuple #[.agg #[.slice a ms.length cap], .slice ra rs.length rcap]) (by simp [results, Try.results88, go_sem, e0]) rfl ?_
          exact ⟨a, cap, ms, ra, rcap, rs, rfl, own_slice Mem.enc_len HO.out rfl, own_slice Res.enc_len HR.out rfl, HN.out, hl, by omega, HF.out, HRF.out, (fun y hy => by have := (own_block HO.out y hy).1; omega), (fun y hy => by have := (own_block HR.out y hy).1; omega), hb⟩
        | true =>
          have h00 : ms.length = 0 := by
            by_cases h : 0 < ms.length
            · exact absurd ⟨rfl, h⟩ hy
            · omega
          have hd : ¬ 0 < ms.length := by omega
          clear hy h00
          have d1 := V1.out.cell (i := 0) rfl
          have d0 := V0.out.cell (i := 0) rfl
          have f0 := V0.out.free 0
          obtain ⟨o7, g7⟩ := V0.out.set 0 (.slice a ms.length cap)
          have e0 := o7.cell (i := 0) (v := .slice a ms.length cap) rfl
          replace HO := Lib.hid (HO.out.kept g7 (.inr (own_en HO.out (by omega))))
          replace HR := Lib.hid (HR.out.kept g7 (.inr (own_en HR.out (by omega))))
          replace hb := hb.trans (below_row g7 (Nat.le_refl _) hb.size)
          clear o7 g7
          go_wp2
          refine bodyPost_ret (v := .tuple #[.agg #[.slice a ms.length cap], .slice ra rs.length rcap]) (by simp [results, Try.results88, go_sem, e0]) rfl ?_
          exact ⟨a, cap, ms, ra, rcap, rs, rfl, own_slice Mem.enc_len HO.out rfl, own_slice Res.enc_len HR.out rfl, HN.out, hl, by omega, HF.out, HRF.out, (fun y hy => by have := (own_block HO.out y hy).1; omega), (fun y hy => by have := (own_block HR.out y hy).1; omega), hb⟩
end Go.Proofs.Ytpodkgfapbcmlaa
