/- Contract: the program's rate (it changes two ratings in a club's own memory). -/
import Derived.Test.YtpodkgfapbcmlaaRate
namespace Go.Proofs.Ytpodkgfapbcmlaa
open Go.ChangeShapes Go.WideShapes Go.ChangeAt Go.RowKit Go.Sort

/-- a row of members that may have been written, and nothing else -/
def RatedPost (w : World) (base : Nat) (v : Value) (n : Nat) (p : List Mem × Int) (en : Ending) (w' : World) : Prop :=
  en = .returned (.int .i64 p.2) ∧ w'.ownsRow base 56 2 v n (p.1.flatMap Mem.enc) ∧ w.grownBy w' v.ownBlock
theorem rateOf_bye {ms : List Mem} {r : Res} (h : r.b.toList.isEmpty = true) : rateOf ms r = (ms, 0) := by unfold rateOf; rw [if_pos h]
theorem rateOf_game {ms : List Mem} {r : Res} (h : r.b.toList.isEmpty = false) {i j : Nat} (hi : i < ms.length) (hj : j < ms.length) (h1 : findMem r.a ms = i) (h2 : findMem r.b ms = j) (hne : i ≠ j) :
    rateOf ms r = ((ms.set i ⟨ms[i].name, ms[i].rating + gain ms[i].rating ms[j].rating r.sa r.sb⟩).set j ⟨ms[j].name, ms[j].rating - gain ms[i].rating ms[j].rating r.sa r.sb⟩, gain ms[i].rating ms[j].rating r.sa r.sb) := by
  unfold rateOf
  rw [if_neg (by rw [h]; exact Bool.false_ne_true)]
  simp only [h1, h2, Int.toNat_natCast, moved, getD_of hi, getD_of hj]
  rw [getD_of (by simpa using hj), List.getElem_set_ne hne]
theorem ne_of_names {ms : List Mem} {r : Res} {i j : Nat} (hi : i < ms.length) (hj : j < ms.length) (h1 : findMem r.a ms = i) (h2 : findMem r.b ms = j) (hab : ¬ r.a.toList = r.b.toList) : i ≠ j := fun e => by
  subst e
  exact hab ((findMem_name hi h1).symm.trans (findMem_name hj h2))

set_option maxHeartbeats 4000000 in
theorem rate_any (ms : List Mem) (r : Res) (a : Option Addr) (cap base : Nat) (w : World) (ho : w.ownsRow base 56 2 (.slice a ms.length cap) ms.length (ms.flatMap Mem.enc)) (hl : ms.length ≤ 1048576) (hok : resOk r = true) (hk : known ms r = true) (hrt : RatingsOk ms) :
    Calls Try.prog 68 #[.agg #[.slice a ms.length cap], .agg #[.string r.a, .string r.b, .int .i64 r.sa, .int .i64 r.sb]] w (RatedPost w base (.slice a ms.length cap) ms.length (rateOf ms r)) := by
  have HO := Lib.hid ho; clear ho
  cases hbe : r.b.toList.isEmpty with
  | true =>
    have hbn : r.b.toList = [] := List.isEmpty_iff.1 hbe
    have HR := Lib.hid (rateOf_bye (ms := ms) hbe)
    have hb0 : Below w.heap.size w ((w.alloc (.cells #[.slice a ms.length cap] 30)).alloc (.cells #[.string r.a, .string r.b, .int .i64 r.sa, .int .i64 r.sb] 39)) := ((Below.refl _ _).alloc (Nat.le_refl _) _).alloc (by simp) _
    clear hok hk hrt
    go_enter Try.func68, Try.ntmps68
    go_wp2
    go_ret
    rw [HR.out]
    exact ⟨rfl, own_below HO.out hb0, grown_of_below hb0⟩
  | false =>
    obtain ⟨i, j, h1, hi, h2, hj⟩ := known_game hk hbe
    obtain ⟨s0, s1, s2, s3, hab⟩ := scores_game hok hbe
    have hne := ne_of_names hi hj h1 h2 hab
    have HR := Lib.hid (rateOf_game hbe hi hj h1 h2 hne)
    have hbn : ¬ r.b.toList = [] := fun e => by rw [e] at hbe; simp at hbe
    obtain ⟨ra0, ra1⟩ := hrt.at hi
    obtain ⟨rb0, rb1⟩ := hrt.at hj
    obtain ⟨g0, g1, g2, g3⟩ := gain_bd ms[i].rating ms[j].rating r.sa r.sb ra0 ra1 rb0 rb1
    obtain ⟨g, rfl⟩ : ∃ g, a = some ⟨g, 0, none⟩ := by
      rcases HO.out.2 with ⟨_, h⟩ | ⟨g, _, _, h, _⟩
      · omega
      · simp only [Value.slice.injEq] at h
        exact ⟨g, h.1⟩
    have hb0 : Below w.heap.size w ((w.alloc (.cells #[.slice (some ⟨g, 0, none⟩) ms.length cap] 30)).alloc (.cells #[.string r.a, .string r.b, .int .i64 r.sa, .int .i64 r.sb] 39)) := ((Below.refl _ _).alloc (Nat.le_refl _) _).alloc (by simp) _
    have q1 := cell_regrown (cell_alloc (cell_new0 w #[.slice (some ⟨g, 0, none⟩) ms.length cap] 30 (i := 0) (v := .slice (some ⟨g, 0, none⟩) ms.length cap) rfl) (.cells #[.string r.a, .string r.b, .int .i64 r.sa, .int .i64 r.sb] 39))
    have q2 := cell_regrown (cell_new0 (w.alloc (.cells #[.slice (some ⟨g, 0, none⟩) ms.length cap] 30)) #[.string r.a, .string r.b, .int .i64 r.sa, .int .i64 r.sb] 39 (i := 0) (v := .string r.a) rfl)
    have q3 := cell_regrown (cell_new0 (w.alloc (.cells #[.slice (some ⟨g, 0, none⟩) ms.length cap] 30)) #[.string r.a, .string r.b, .int .i64 r.sa, .int .i64 r.sb] 39 (i := 1) (v := .string r.b) rfl)
    simp only [World.size_alloc] at q2 q3
    have M0 := Lib.hid (own_slice Mem.enc_len HO.out rfl)
    have k1 := fun wx (hwx : SliceAt wx 2 Mem.enc (some ⟨g, 0, none⟩) ms) => member_any ms r.a _ cap wx hwx (by omega)
    have k2 := fun wx (hwx : SliceAt wx 2 Mem.enc (some ⟨g, 0, none⟩) ms) => member_any ms r.b _ cap wx hwx (by omega)
    simp only [h1] at k1
    simp only [h2] at k2
    have K1 := Lib.hid k1; clear k1
    have K2 := Lib.hid k2; clear k2
    have c1 := cell_alloc (cell_new0 w #[.slice (some ⟨g, 0, none⟩) ms.length cap] 30 (i := 0) (v := .slice (some ⟨g, 0, none⟩) ms.length cap) rfl) (.cells #[.string r.a, .string r.b, .int .i64 r.sa, .int .i64 r.sb] 39)
    have d0 := cell_new0 (w.alloc (.cells #[.slice (some ⟨g, 0, none⟩) ms.length cap] 30)) #[.string r.a, .string r.b, .int .i64 r.sa, .int .i64 r.sb] 39 (i := 0) (v := .string r.a) rfl
    have d1 := cell_new0 (w.alloc (.cells #[.slice (some ⟨g, 0, none⟩) ms.length cap] 30)) #[.string r.a, .string r.b, .int .i64 r.sa, .int .i64 r.sb] 39 (i := 1) (v := .string r.b) rfl
    have d2 := cell_new0 (w.alloc (.cells #[.slice (some ⟨g, 0, none⟩) ms.length cap] 30)) #[.string r.a, .string r.b, .int .i64 r.sa, .int .i64 r.sb] 39 (i := 2) (v := .int .i64 r.sa) rfl
    have d3 := cell_new0 (w.alloc (.cells #[.slice (some ⟨g, 0, none⟩) ms.length cap] 30)) #[.string r.a, .string r.b, .int .i64 r.sa, .int .i64 r.sb] 39 (i := 3) (v := .int .i64 r.sb) rfl
    simp only [World.size_alloc] at d0 d1 d2 d3
    have HN := Lib.hid hne
    clear hok hk hrt h1 h2 hab hne
    go_enter Try.func68, Try.ntmps68
    go_wp2
    refine wp_region_quiet_below (by kernel_rfl) (by kernel_rfl) ?_
    repeat (go_big_quiet_step ((first | (go_at_call_of 62 (Value.string r.a); exact Calls.regrown_of (K1.out _ (M0.out.kept (hb0.trans ((below_regrown _ _ _).mono hb0.size))))) | (go_at_call_of 62 (Value.string r.b); exact Calls.regrown_of (K2.out _ (M0.out.kept (hb0.trans ((below_regrown _ _ _).mono hb0.size))))))))
    refine wpQuiet_nil ?_
    intro w3 hw'
    have hb3 := below_of_ex hw'
    clear hw' q1 q2 q3
    have e1 := cell_kept c1 hb3
    have e20 := cell_kept d0 hb3
    have e21 := cell_kept d1 hb3
    have e22 := cell_kept d2 hb3
    have e23 := cell_kept d3 hb3
    have hbw3 := hb0.trans (hb3.mono hb0.size)
    have HO3 := Lib.hid (own_below HO.out hbw3)
    have r1 := own_cells Mem.enc_len HO3.out rfl hi (j := 1) (v := .int .i64 ms[i].rating) rfl
    have r2 := own_cells Mem.enc_len HO3.out rfl hj (j := 1) (v := .int .i64 ms[j].rating) rfl
    have p1 := cell_regrown e1
    have p20 := cell_regrown e20
    have p21 := cell_regrown e21
    have p22 := cell_regrown e22
    have p23 := cell_regrown e23
    have p3 := cell_regrown r1
    have p4 := cell_regrown r2
    clear c1 d0 d1 d2 d3 e20 e21 e22 e23 r1 r2 hb3
    go_wp2
    refine wp_region_quiet_below (by kernel_rfl) (by kernel_rfl) ?_
    repeat (go_big_quiet_step ((go_at_call 109; exact Calls.regrown_of (change_any _ _ r _ ra0 ra1 rb0 rb1 s0 s1 s2 s3))))
    refine wpQuiet_nil ?_
    intro w4 hw'
    have hb4 := below_of_ex hw'
    clear hw' p1 p20 p21 p22 p23 p3 p4
    obtain ⟨x, hx⟩ : ∃ x, x = gain ms[i].rating ms[j].rating r.sa r.sb := ⟨_, rfl⟩
    rw [← hx] at g0 g1 g2 g3 HR ⊢
    clear hx
    have e1' := cell_kept e1 hb4
    have hbw4 := hbw3.trans (hb4.mono hbw3.size)
    have ho4 := own_below HO3.out hb4
    have r1 := own_cells Mem.enc_len ho4 rfl hi (j := 1) (v := .int .i64 ms[i].rating) rfl
    have f1 := ho4.frozenAt (i * 2 + 1)
    obtain ⟨ho5, hg5⟩ := ho4.stored (i * 2 + 1) (.int .i64 (ms[i].rating + x))
    rw [mem_set hi] at ho5
    have hj5 : j < (ms.set i ⟨ms[i].name, ms[i].rating + x⟩).length := by simpa using hj
    have hget : (ms.set i ⟨ms[i].name, ms[i].rating + x⟩)[j] = ms[j] := List.getElem_set_ne HN.out _
    have r2 := own_cells Mem.enc_len ho5 (by simp) hj5 (j := 1) (v := .int .i64 ms[j].rating) (by rw [hget]; rfl)
    have f2 := ho5.frozenAt (j * 2 + 1)
    have hcb : (w4.setCell ⟨g, i * 2 + 1, none⟩ (.int .i64 (ms[i].rating + x))).cell? ⟨w.heap.size, 0, none⟩ = some (.slice (some ⟨g, 0, none⟩) ms.length cap) := hg5.cell e1' (by
      have := HO.out.lt g rfl
      simp
      omega)
    obtain ⟨ho6, hg6⟩ := ho5.stored (j * 2 + 1) (.int .i64 (ms[j].rating - x))
    rw [mem_set hj5, hget] at ho6
    have HO6 := Lib.hid ho6
    have HG6 := Lib.hid (grownBy_trans (grown_of_below (row := some g) hbw4) (grownBy_trans hg5 hg6))
    clear ho4 ho5 ho6 hg5 hg6 hget hj5 hb4 e1
    go_wp2
    go_ret
    rw [HR.out]
    exact ⟨rfl, HO6.out, HG6.out⟩
end Go.Proofs.Ytpodkgfapbcmlaa
