/- Contract: the reference's l26Rate (a club's copy with two ratings changed). -/
import Derived.Test.YtpodkgfapbcmlaaRateB
namespace Go.Proofs.Ytpodkgfapbcmlaa
open Go.ChangeShapes Go.WideShapes Go.ChangeAt Go.RowKit Go.Sort

/-- a club in new memory, and a number -/
def ClubInt (w : World) (p : List Mem × Int) (en : Ending) (w' : World) : Prop :=
  ∃ (a : Option Addr) (cap : Nat), en = .returned (.tuple #[.agg #[.slice a p.1.length cap], .int .i64 p.2]) ∧ w'.ownsRow w.heap.size 56 2 (.slice a p.1.length cap) p.1.length (p.1.flatMap Mem.enc) ∧ Below w.heap.size w w'

set_option maxHeartbeats 4000000 in
theorem l26Rate_any (ms : List Mem) (r : Res) (a : Option Addr) (cap cb co rb ro : Nat) (w : World) (hc : w.cell? ⟨cb, co, none⟩ = some (.slice a ms.length cap)) (hm : SliceAt w 2 Mem.enc a ms) (hr : ResAt w rb ro r) (hn : a = none → ms = []) (hl : ms.length ≤ 1048576) (hok : resOk r = true) (hk : known ms r = true) (hrt : RatingsOk ms) :
    Calls Try.prog 65 #[.pointer (some ⟨cb, co, none⟩), .pointer (some ⟨rb, ro, none⟩)] w (ClubInt w (rateOf ms r)) := by
  have HM := Lib.hid hm; clear hm
  obtain ⟨i0, hi0, hz0, hz1, hz2⟩ := info_parts infoMember
  have hb0 : Below w.heap.size w (w.alloc (.cells #[.slice none 0 0] 30)) := (Below.refl _ _).alloc (Nat.le_refl _) _
  cases a with
  | none => 
    exfalso
    obtain rfl := hn rfl
    simp [known, findMem, findFrom] at hk
  | some ad =>
    clear hn
    have hnews : ∀ j u, (ms.flatMap Mem.enc)[j]? = some u → ((w.alloc (.cells #[.slice none 0 0] 30)).alloc (.cells #[] 56)).cell? (ad.add j) = some u := by
      intro j u hj
      rcases HM.out with rfl | ⟨b, off, hab, hcs⟩
      · simp at hj
      · simp only [Option.some.injEq] at hab
        subst hab
        exact cell_alloc (cell_alloc (cellsAt_row Mem.enc_len (by decide) hcs j u hj) _) _
    have hown := World.ownsRow_made (base := w.heap.size + 1) (e := 56) (size := 2) (w.alloc (.cells #[.slice none 0 0] 30)) #[] 0 (by simp) (by unfold maxLen; omega) rfl
    simp only [World.size_alloc] at hown
    have HN := Lib.hid hnews
    have HO := Lib.hid hown
    have hfl : (ms.flatMap Mem.enc).length = ms.length * 2 := flatMap_len Mem.enc_len ms
    have HFL := Lib.hid hfl
    have hcA := cell_alloc (cell_alloc hc (.cells #[.slice none 0 0] 30)) (.cells #[] 56)
    have hR0 := cell_alloc (cell_new0 w #[.slice none 0 0] 30 (i := 0) (v := .slice none 0 0) rfl) (.cells #[] 56)
    have hra := (hr.kept ((Below.refl w.heap.size w).alloc (Nat.le_refl _) (.cells #[.slice none 0 0] 30)))
    have HRA := Lib.hid hra
    clear hnews hown hfl hra
    go_enter Try.func65, Try.ntmps65
    go_wp2_with (at_builtin; refine wpList_append_own _ rfl (.tmp 10) (.tmp 14) 28 rfl (w.heap.size + 1) 56 i0 _ 2 24 Try.underlying28 hi0 hz0 hz1 hz2 rfl (by decide) _ 0 [] rfl HO.out ad ms.length cap (ms.flatMap Mem.enc) rfl HFL.out HN.out (mem_oneCell ms) ?c1 ?c2 ?c3 ?_)
    case c1 => unfold maxLen; omega
    case c2 => omega
    case c3 => simp
    intro v' w2 hown2 hgr _
    obtain ⟨a', cap', hv⟩ := own_shape hown2
    rw [hv] at hown2
    rw [hv]
    have hb2 : Below w.heap.size w w2 := below_grown (((Below.refl w.heap.size w).alloc (Nat.le_refl _) (.cells #[.slice none 0 0] 30)).alloc (by simp) (.cells #[] 56)) (by simp; omega) hgr (by simp)
    have hx : Below w2.heap.size w2 (w2.alloc (.cells #[.slice a' ms.length cap'] 30)) := (Below.refl _ _).alloc (Nat.le_refl _) _
    have hb3 := hb2.trans (hx.mono hb2.size)
    have hR2 := hgr.cell hR0 (by simp [Value.ownBlock])
    have hw2 : w.heap.size + 1 < w2.heap.size := by have := hgr.size; simp at this; omega
    have hR3 := cell_kept hR2 hx
    have hO3 := cell_new0 w2 #[.slice a' ms.length cap'] 30 (i := 0) (v := .slice a' ms.length cap') rfl
    have hc3 := cell_kept (cell_kept hc hb2) hx
    have HM3 := Lib.hid (HM.out.kept hb3)
    have hr3 := hr.kept hb3
    have HLT := Lib.hid hown2.lt
    have HO3 := Lib.hid (own_below hown2 hx)
    have hfR : w2.frozen? ⟨w.heap.size, 0, none⟩ = false := by
      rw [World.frozen?_of_block (hgr.block w.heap.size (by simp; omega) (by simp [Value.ownBlock]))]
      simp [go_sem]
    have hfR3 : (w2.alloc (.cells #[.slice a' ms.length cap'] 30)).frozen? ⟨w.heap.size, 0, none⟩ = false := (hx.frozen (p := ⟨w.heap.size, 0, none⟩) (by simp; omega)).trans hfR
    clear hcA hR0 HRA hgr hown2 HN HO HFL hR2 hfR hb0 hc hr HM hv
    cases hbe : r.b.toList.isEmpty with
    | true =>
      have hbn : r.b.toList = [] := List.isEmpty_iff.1 hbe
      have HR := Lib.hid (rateOf_bye (ms := ms) hbe)
      obtain ⟨e0, e1, e2, e3⟩ := hr3
      go_wp2_with fail
      generalize w2.alloc (.cells #[.slice a' ms.length cap'] 30) = w3 at *
      have hFin : (w3.setCell ⟨w.heap.size, 0, none⟩ (.slice a' ms.length cap')).cell? ⟨w.heap.size, 0, none⟩ = some (.slice a' ms.length cap') := by go_cell
      go_wp2
      refine bodyPost_ret (v := .tuple #[.agg #[.slice a' ms.length cap'], .int .i64 0]) (by simp [results, Try.results65, go_sem, hFin]) rfl ?_
      rw [HR.out]
      exact ⟨a', cap', rfl, own_mono (ownsRow_setCell_below HO3.out (by simp) _) (by omega), hb3.setCell (Nat.le_refl _) _⟩
    | false =>
      obtain ⟨i, j, h1, hi, h2, hj⟩ := known_game hk hbe
      obtain ⟨s0, s1, s2, s3, hab⟩ := scores_game hok hbe
      have hne := ne_of_names hi hj h1 h2 hab
      have HR := Lib.hid (rateOf_game hbe hi hj h1 h2 hne)
      have hbn : ¬ r.b.toList = [] := fun e => by rw [e] at hbe; simp at hbe
      obtain ⟨ra0, ra1⟩ := hrt.at hi
      obtain ⟨rb0, rb1⟩ := hrt.at hj
      obtain ⟨g0, g1, g2, g3⟩ := gain_bd ms[i].rating ms[j].rating r.sa r.sb ra0 ra1 rb0 rb1
      obtain ⟨g, rfl⟩ : ∃ g, a' = some ⟨g, 0, none⟩ := by
        rcases HO3.out.2 with ⟨_, h⟩ | ⟨g, _, _, h, _⟩
        · omega
        · simp only [Value.slice.injEq] at h
          exact ⟨g, h.1⟩
      have HN := Lib.hid hne
      have HRES := Lib.hid hr3
      obtain ⟨e0, e1, e2, e3⟩ := hr3
      obtain ⟨hgb, hgl⟩ := HLT.out g rfl
      have hfo : (w2.alloc (.cells #[.slice (some ⟨g, 0, none⟩) ms.length cap'] 30)).frozen? ⟨w2.heap.size, 0, none⟩ = false := by simp [go_sem]
      go_wp2_with fail
      generalize hw3 : w2.alloc (.cells #[.slice (some ⟨g, 0, none⟩) ms.length cap'] 30) = w3 at *
      clear hw3
      refine (l26Find_any ms r.a cb co (some ad) cap w3 hc3 HM3.out (by omega)).mono ?_
      rintro e w4 ⟨rfl, rfl⟩
      rw [h1]
      go_wp2_with fail
      refine (l26Find_any ms r.b cb co (some ad) cap w3 hc3 HM3.out (by omega)).mono ?_
      rintro e w4 ⟨rfl, rfl⟩
      rw [h2]
      obtain ⟨mb, mo, had, hcs⟩ := HM3.out.open hi
      obtain rfl : ad = ⟨mb, mo, none⟩ := by simpa using had
      clear had
      have m1 := hcs i hi 1 (.int .i64 ms[i].rating) rfl
      have m2 := hcs j hj 1 (.int .i64 ms[j].rating) rfl
      clear hcs h1 h2 hne hab hok hk hrt
      go_wp2
      go_quiet ((go_at_call 106; exact quiet_of_drew (l26Gain_any _ _ rb ro r _ (HRES.out.drew ⟨_, rfl⟩) ra0 ra1 rb0 rb1)))
      have hd4 : Drew w3 (w3.drewN nq) := ⟨_, rfl⟩
      generalize w3.drewN nq = w4 at *
      obtain ⟨x, hx'⟩ : ∃ x, x = gain ms[i].rating ms[j].rating r.sa r.sb := ⟨_, rfl⟩
      rw [← hx'] at g0 g1 g2 g3 HR ⊢
      clear hx'
      have hO4 := (hd4.cell ⟨w2.heap.size, 0, none⟩).trans hO3
      have hR4 := (hd4.cell ⟨w.heap.size, 0, none⟩).trans hR3
      have hfR4 := (hd4.frozen ⟨w.heap.size, 0, none⟩).trans hfR3
      have hb4 := hb3.trans ((hd4.below _).mono hb3.size)
      have ho4 := own_below HO3.out (hd4.below _)
      have r1 := own_cells Mem.enc_len ho4 rfl hi (j := 1) (v := .int .i64 ms[i].rating) rfl
      have f1 := ho4.frozenAt (i * 2 + 1)
      obtain ⟨ho5, hg5⟩ := ho4.stored (i * 2 + 1) (.int .i64 (ms[i].rating + x))
      rw [mem_set hi] at ho5
      have hj5 : j < (ms.set i ⟨ms[i].name, ms[i].rating + x⟩).length := by simpa using hj
      have hget : (ms.set i ⟨ms[i].name, ms[i].rating + x⟩)[j] = ms[j] := List.getElem_set_ne HN.out _
      have r2 := own_cells Mem.enc_len ho5 (by simp) hj5 (j := 1) (v := .int .i64 ms[j].rating) (by rw [hget]; rfl)
      have f2 := ho5.frozenAt (j * 2 + 1)
      have hO5 := hg5.cell hO4 (by simp; omega)
      have hR5 := hg5.cell hR4 (by simp; omega)
      obtain ⟨ho6, hg6⟩ := ho5.stored (j * 2 + 1) (.int .i64 (ms[j].rating - x))
      rw [mem_set hj5, hget] at ho6
      have hO6 := hg6.cell hO5 (by simp; omega)
      have hR6 := hg6.cell hR5 (by simp; omega)
      have hfR6 : ((w4.setCell ⟨g, i * 2 + 1, none⟩ (.int .i64 (ms[i].rating + x))).setCell ⟨g, j * 2 + 1, none⟩ (.int .i64 (ms[j].rating - x))).frozen? ⟨w.heap.size, 0, none⟩ = false := by
        rw [World.frozen?_of_block (hg6.block w.heap.size (by simp; have := World.block_lt_of_cell? _ _ hR4; simp at this; omega) (by simp; omega)), World.frozen?_of_block (hg5.block w.heap.size (by have := World.block_lt_of_cell? _ _ hR4; simpa using this) (by simp; omega))]
        exact hfR4
      have hb6 := below_grown (below_grown hb4 hb4.size hg5 (by omega)) (by simp; exact hb4.size) hg6 (by omega)
      have HO6 := Lib.hid ho6
      clear ho4 ho5 ho6 hg5 hg6 hget hj5 hd4
      have hFin : (((w4.setCell ⟨g, i * 2 + 1, none⟩ (.int .i64 (ms[i].rating + x))).setCell ⟨g, j * 2 + 1, none⟩ (.int .i64 (ms[j].rating - x))).setCell ⟨w.heap.size, 0, none⟩ (.slice (some ⟨g, 0, none⟩) ms.length cap')).cell? ⟨w.heap.size, 0, none⟩ = some (.slice (some ⟨g, 0, none⟩) ms.length cap') := by go_cell
      go_wp2
      refine bodyPost_ret (v := .tuple #[.agg #[.slice (some ⟨g, 0, none⟩) ms.length cap'], .int .i64 x]) (by simp [results, Try.results65, go_sem, hFin]) rfl ?_
      rw [HR.out]
      refine ⟨some ⟨g, 0, none⟩, cap', by simp only [List.length_set], ?_, hb6.setCell (Nat.le_refl _) _⟩
      simp only [List.length_set]
      exact own_mono (ownsRow_setCell_below HO6.out (by simp) _) (by omega)
end Go.Proofs.Ytpodkgfapbcmlaa
