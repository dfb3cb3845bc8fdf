/- Contract: the lines of all members, sorted (program). -/
import Derived.Test.YtpodkgfapbcmlaaStT
import Derived.Test.YtpodkgfapbcmlaaSstStd
import Derived.Test.YtpodkgfapbcmlaaClub
import Derived.Deep.DeepMust
namespace Go.Proofs.Ytpodkgfapbcmlaa
open Go.ChangeShapes Go.WideShapes Go.ChangeAt Go.RowKit Go.Sort

def zeroLine (m : Mem) : Std := ⟨m.name, 0, 0, 0⟩
theorem zeroLine_snoc {ms : List Mem} {k : Nat} (h : k < ms.length) : ((ms.take k).map zeroLine).flatMap Std.enc ++ Std.enc (zeroLine ms[k]) = ((ms.take (k + 1)).map zeroLine).flatMap Std.enc := by
  rw [List.take_succ_eq_append_getElem h, List.map_append, List.flatMap_append]
  simp
def linesTo (ms : List Mem) (rs : List Res) (k : Nat) : List Std := ms.map fun m => lineOf m.name (rs.take k)
theorem linesTo_zero (ms : List Mem) (rs : List Res) : linesTo ms rs 0 = ms.map zeroLine := rfl
theorem linesTo_len (ms : List Mem) (rs : List Res) (k : Nat) : (linesTo ms rs k).length = ms.length := by simp [linesTo]
theorem linesTo_succ {ms : List Mem} {rs : List Res} {k : Nat} (h : k < rs.length) : linesTo ms rs (k + 1) = ms.map fun m => lineAdd m.name (lineOf m.name (rs.take k)) rs[k] := by
  unfold linesTo
  exact List.map_congr_left (fun m _ => lineOf_succ h)
theorem linesTo_get {ms : List Mem} {rs : List Res} {k i : Nat} (h : i < ms.length) : (linesTo ms rs k)[i]'(by rw [linesTo_len]; exact h) = lineOf ms[i].name (rs.take k) := by simp [linesTo]

theorem known_bye {ms : List Mem} {r : Res} (hk : known ms r = true) (hb : r.b.toList.isEmpty = true) : ∃ i : Nat, findMem r.a ms = i ∧ i < ms.length := by
  unfold known at hk
  rw [hb] at hk
  simp at hk
  rcases findMem_bound r.a ms with h | ⟨h1, h2⟩
  · omega
  · exact ⟨(findMem r.a ms).toNat, by omega, by omega⟩
/-- what insertion sort asks of the program's less -/
theorem stdLessB (Bs blk cap n base : Nat) (w : World) (hs : w.cell? ⟨Bs, 0, none⟩ = some (.slice (some ⟨blk, 0, none⟩) n cap)) (hne : Bs ≠ blk) :
    LessB Try.prog 122 #[.pointer (some ⟨Bs, 0, none⟩)] Std.enc 4 stdLess base 74 blk cap n w := by
  intro W ys i j hi hj hn ho hg
  subst hn
  have h1 := hg.cell hs (fun e => hne (by simpa using e))
  refine (stdLess_any ys i j Bs blk cap hi hj W h1 ?_).mono (fun _ _ h => h)
  intro a ha b v hv
  rw [Nat.zero_add]
  exact own_cells Std.enc_len ho rfl ha hv
set_option maxRecDepth 100000 in
set_option maxHeartbeats 8000000 in
theorem standings_any (ms : List Mem) (rs : List Res) (a ra : Option Addr) (cap rcap : Nat) (w : World) (hm : SliceAt w 2 Mem.enc a ms) (hr : SliceAt w 4 Res.enc ra rs)
    (hc : clubOk ms = true) (hl : ms.length ≤ 12) (hlr : rs.length ≤ 200) (hok : rs.all resOk = true) (hkn : rs.all (known ms) = true) :
    Calls Try.prog 89 #[.agg #[.slice a ms.length cap], .slice ra rs.length rcap] w (CopyPost w 74 4 Std.enc (tableOf ms rs)) := by
  have HM := Lib.hid hm; clear hm
  have HRS := Lib.hid hr; clear hr
  have HC := Lib.hid hc; clear hc
  have HOK := Lib.hid hok; clear hok
  have HKN := Lib.hid hkn; clear hkn
  obtain ⟨i0, hi0, hz0, hz1, hz2⟩ := info_parts infoStanding
  obtain ⟨w2, hw2⟩ : ∃ w2, w2 = ((w.alloc (.cells #[.slice a ms.length cap] 30)).alloc (.cells #[] 74)).alloc (.cells #[.slice (some ⟨w.heap.size + 1, 0, none⟩) 0 0] 70) := ⟨_, rfl⟩
  have hb : Below w.heap.size w w2 := by rw [hw2]; exact (((Below.refl _ _).alloc (Nat.le_refl _) _).alloc (by simp) _).alloc (by simp; omega) _
  have c1 : w2.cell? ⟨w.heap.size, 0, none⟩ = some (.slice a ms.length cap) := by rw [hw2]; exact cell_alloc (cell_alloc (cell_new0 w _ _ rfl) _) _
  have c5 : w2.cell? ⟨w.heap.size + 1 + 1, 0, none⟩ = some (.slice (some ⟨w.heap.size + 1, 0, none⟩) 0 0) := by
    rw [hw2]
    have := cell_new0 ((w.alloc (.cells #[.slice a ms.length cap] 30)).alloc (.cells #[] 74)) #[.slice (some ⟨w.heap.size + 1, 0, none⟩) 0 0] 70 (i := 0) rfl
    simpa using this
  have f5 : w2.frozen? ⟨w.heap.size + 1 + 1, 0, none⟩ = false := by rw [hw2]; simp [go_sem]
  have HO : Hid (w2.ownsRow (w.heap.size + 1) 74 4 (.slice (some ⟨w.heap.size + 1, 0, none⟩) 0 0) 0 (((ms.take 0).map zeroLine).flatMap Std.enc)) := by
    rw [hw2]
    have := World.ownsRow_made (base := w.heap.size + 1) (e := 74) (size := 4) (w.alloc (.cells #[.slice a ms.length cap] 30)) #[] 0 (by simp) (by unfold maxLen; omega) rfl
    rw [show (w.alloc (.cells #[.slice a ms.length cap] 30)).heap.size = w.heap.size + 1 from by simp] at this
    exact Lib.hid (own_alloc this _)
  have HW2 := Lib.hid hw2; clear hw2
  go_enter Try.func89, Try.ntmps89
  go_wp2
  rw [← HW2.out]
  clear HW2
  go_loopw [15] (fun iv wr => ∃ (k g cp : Nat), k ≤ ms.length ∧ iv = .int .i64 k ∧ g ≠ w.heap.size + 1 + 1 ∧ Hid (wr.ownsRow (w.heap.size + 1) 74 4 (.slice (some ⟨g, 0, none⟩) k cp) k (((ms.take k).map zeroLine).flatMap Std.enc)) ∧
      wr.cell? ⟨w.heap.size, 0, none⟩ = some (.slice a ms.length cap) ∧ wr.cell? ⟨w.heap.size + 1 + 1, 0, none⟩ = some (.slice (some ⟨g, 0, none⟩) k cp) ∧ wr.frozen? ⟨w.heap.size + 1 + 1, 0, none⟩ = false ∧ Below w.heap.size w wr) (fun iv _ => ms.length - (intOf iv).toNat)
  case atStart => exact ⟨0, _, 0, Nat.zero_le _, rfl, by omega, HO, c1, c5, f5, hb⟩
  case round =>
    clear HO c1 c5 f5 hb
    obtain ⟨k, g, cp, hk, rfl, hg, HO, c1, c5, f5, hb⟩ := hrel
    by_cases hlt : k < ms.length
    · obtain ⟨mb, mo, rfl, hcs⟩ := (HM.out.kept hb).open hlt
      have m0 := hcs.at0 hlt rfl
      have m1 := hcs k hlt 1 _ rfl
      clear hcs
      have b5 := block_lt c5
      have hx : Below wr.heap.size wr ((wr.alloc (.cells #[.string ms[k].name, .int .i64 ms[k].rating] 56)).alloc (.cells #[.string ms[k].name, .int .i64 0, .int .i64 0, .int .i64 0] 74)) := ((Below.refl _ _).alloc (Nat.le_refl _) _).alloc (by simp) _
      have KO := Lib.hid (own_below HO.out hx)
      have kn := own_news (L1 := Std.enc (zeroLine ms[k])) (L2 := []) (row_new (wr.alloc (.cells #[.string ms[k].name, .int .i64 ms[k].rating] 56)) (zeroLine ms[k]) 74 0 (Nat.zero_le _))
      rw [show (wr.alloc (.cells #[.string ms[k].name, .int .i64 ms[k].rating] 56)).heap.size = wr.heap.size + 1 from by simp] at kn
      have KN := Lib.hid kn
      clear kn
      go_wp2_with (at_builtin; go_must (refine wpList_append_lies _ rfl (.tmp 19) (.tmp 23) 70 rfl (w.heap.size + 1) 74 i0 (.agg #[.string ⟨#[]⟩, .int .i64 0, .int .i64 0, .int .i64 0]) 4 40 Try.underlying70 hi0 hz0 hz1 hz2 rfl (by decide) (.slice (some ⟨g, 0, none⟩) k cp) k (((ms.take k).map zeroLine).flatMap Std.enc) rfl KO.out ⟨wr.heap.size + 1, 0, none⟩ 1 1 (Std.enc (zeroLine ms[k])) rfl rfl KN.out (fun u hu => std_oneCell [zeroLine ms[k]] u (by simpa using hu)) (by decide) ?a1 ?a2 ?a3 _ rfl ?_))
      case a1 => unfold maxLen; omega
      case a2 => omega
      case a3 => simp; omega
      intro g5 cap5 w5 ho5 hg5 hat5 hlt5
      have hg5n : g5 ≠ w.heap.size + 1 + 1 := by
        rcases hat5 with h | h
        · first | omega | (simp [Value.ownBlock] at h; omega)
        · first | omega | (simp at h; omega)
      have hn5 : some (w.heap.size + 1 + 1) ≠ (Value.slice (some ⟨g, 0, none⟩) k cp).ownBlock := by simp [Value.ownBlock]; omega
      replace f5 := (hg5.frozen_far _ (block_lt (cell_kept c5 hx)) hn5).trans (frozen_kept f5 c5 hx)
      replace c5 := hg5.cell (cell_kept c5 hx) hn5
      replace c1 := app_cell hx KO.out hg5 c1 (by omega)
      replace hb := app_below hx KO.out hg5 hb (by omega)
      have H5 : Hid (w5.ownsRow (w.heap.size + 1) 74 4 (.slice (some ⟨g5, 0, none⟩) (k + 1) cap5) (k + 1) (((ms.take (k + 1)).map zeroLine).flatMap Std.enc)) := Lib.hid (own_as ho5 (by rw [← zeroLine_snoc hlt, List.map_take]))
      have hl5 := block_lt c5
      clear ho5 hg5 hat5 hlt5 hn5 KO KN HO hx m0 m1
      go_wp2
      go_roundw
      case rel =>
        refine ⟨k + 1, g5, cap5, by omega, by go_num, hg5n, Lib.hid ?_, cell_far c1 (by omega) _, World.cell?_setCell_same _ _ _ c5, ?_, hb.setCell (by simp only; omega) _⟩
        · exact H5.out.kept (row := some (w.heap.size + 1 + 1)) (grown_setCell _ _ _) (.inr (by simp [Value.ownBlock]; omega))
        · rw [World.frozen?_setCell]; exact f5
      case measure => simp [intOf]; omega
    · have hend : k = ms.length := by omega
      subst hend
      rw [List.take_length] at HO
      have HO2 : Hid (wr.ownsRow (w.heap.size + 1) 74 4 (.slice (some ⟨g, 0, none⟩) ms.length cp) ms.length ((linesTo ms rs 0).flatMap Std.enc)) := HO
      clear HO f5 hlt hk
      go_wp2
      go_loopw [28] (fun iv wr => ∃ k : Nat, k ≤ rs.length ∧ iv = .int .i64 k ∧ Hid (wr.ownsRow (w.heap.size + 1) 74 4 (.slice (some ⟨g, 0, none⟩) ms.length cp) ms.length ((linesTo ms rs k).flatMap Std.enc)) ∧
          wr.cell? ⟨w.heap.size, 0, none⟩ = some (.slice a ms.length cap) ∧ wr.cell? ⟨w.heap.size + 1 + 1, 0, none⟩ = some (.slice (some ⟨g, 0, none⟩) ms.length cp) ∧ Below w.heap.size w wr) (fun iv _ => rs.length - (intOf iv).toNat)
      case atStart => exact ⟨0, Nat.zero_le _, rfl, HO2, c1, c5, hb⟩
      case round =>
        clear HO2 c1 c5 hb
        obtain ⟨k, hk, rfl, HO, c1, c5, hb⟩ := hrel
        by_cases hlt : k < rs.length
        · obtain ⟨xb, xo, rfl, hcs⟩ := (HRS.out.kept hb).open hlt
          obtain ⟨e0, e1, e2, e3⟩ := resAt_of hcs hlt
          clear hcs
          have HRO := Lib.hid (List.all_eq_true.1 HOK.out _ (List.getElem_mem hlt))
          have HKO := Lib.hid (List.all_eq_true.1 HKN.out _ (List.getElem_mem hlt))
          obtain ⟨t0, t1, t2, t3⟩ := scOk_of HRO.out
          have hd : Below wr.heap.size wr (wr.alloc (.cells #[.string rs[k].a, .string rs[k].b, .int .i64 rs[k].sa, .int .i64 rs[k].sb] 39)) := (Below.refl _ _).alloc (Nat.le_refl _) _
          have q0 := cell_new0 wr #[.string rs[k].a, .string rs[k].b, .int .i64 rs[k].sa, .int .i64 rs[k].sb] 39 (i := 0) (v := .string rs[k].a) rfl
          have q1 := cell_new0 wr #[.string rs[k].a, .string rs[k].b, .int .i64 rs[k].sa, .int .i64 rs[k].sb] 39 (i := 1) (v := .string rs[k].b) rfl
          have q2 := cell_new0 wr #[.string rs[k].a, .string rs[k].b, .int .i64 rs[k].sa, .int .i64 rs[k].sb] 39 (i := 2) (v := .int .i64 rs[k].sa) rfl
          have q3 := cell_new0 wr #[.string rs[k].a, .string rs[k].b, .int .i64 rs[k].sa, .int .i64 rs[k].sb] 39 (i := 3) (v := .int .i64 rs[k].sb) rfl
          have hgl := (HO.out.lt g rfl)
          have hgw := hb.size
          cases hbe : rs[k].b.toList.isEmpty with
          | true =>
            have hbn : rs[k].b.toList = [] := List.isEmpty_iff.1 hbe
            obtain ⟨i, h1, hi⟩ := known_bye HKO.out hbe
            have HI1 := Lib.hid h1
            have hMAP : (linesTo ms rs k).set i (byed (lineOf ms[i].name (rs.take k))) = linesTo ms rs (k + 1) := by
              rw [linesTo_succ hlt]
              exact map_bye HC.out hbe hi h1 (fun m => lineOf m.name (rs.take k))
            have hLI : ∀ h : i < (linesTo ms rs k).length, (linesTo ms rs k)[i]'h = lineOf ms[i].name (rs.take k) := fun _ => linesTo_get hi
            have HLL := Lib.hid (linesTo_len ms rs k)
            obtain ⟨z0, z1, z2, z3, z4, z5⟩ := lineOf_bd (nm := ms[i].name) HOK.out k hk
            generalize lineOf ms[i].name (rs.take k) = s at *
            have HMAP := Lib.hid hMAP
            have HLI := Lib.hid hLI
            clear hMAP hLI h1
            generalize linesTo ms rs k = L at *
            have hi0' : (0 : Int) ≤ (i : Int) := by omega
            have hi1' : (i : Int) < (ms.length : Int) := by omega
            go_upto_region 10 with fail
            replace HO := Lib.hid (own_below HO.out hd)
            replace hb := hb.trans (hd.mono hb.size)
            replace c1 := cell_kept c1 hd
            replace c5 := cell_kept c5 hd
            clear hd
            obtain ⟨R, hR⟩ : ∃ R, R = wr.heap.size := ⟨_, rfl⟩
            rw [← hR] at q0 q1 q2 q3 ⊢
            have hRg : g < R := by rw [hR]; exact hgl.2
            clear hR
            generalize wr.alloc (.cells #[.string rs[k].a, .string rs[k].b, .int .i64 rs[k].sa, .int .i64 rs[k].sb] 39) = w3 at *
            have hk : Below w3.heap.size w3 w3.drew := (Below.refl _ _).drew
            have k_c1 := cell_kept c1 hk
            have k_c5 := cell_kept c5 hk
            have k_q0 := cell_kept q0 hk
            have k_q1 := cell_kept q1 hk
            have k_q2 := cell_kept q2 hk
            have k_q3 := cell_kept q3 hk
            have SA := Lib.hid (HM.out.kept hb)
            have k_o := Lib.hid (own_below HO.out hk)
            go_region_held3 (fun w' => w'.cell? ⟨w.heap.size + 1 + 1, 0, none⟩ = some (.slice (some ⟨g, 0, none⟩) ms.length cp) ∧ w'.cell? ⟨w.heap.size, 0, none⟩ = some (.slice a ms.length cap) ∧ w'.cell? ⟨R, 0, none⟩ = some (.string rs[k].a))
              (first | exact ⟨k_c5, k_c1, k_q0⟩ | exact ⟨cell_alloc k_c5 _, cell_alloc k_c1 _, cell_alloc k_q0 _⟩)
              ((go_at_call 62; refine (member_any ms rs[k].a a cap _ (SA.out.kept hk) (by omega)).mono ?_; rintro e wq ⟨rfl, hdq⟩; rw [HI1.out]; replace hk := hk.trans (hdq.mono hk.size); replace k_o := Lib.hid (own_below k_o.out hdq); replace k_c1 := cell_kept k_c1 hdq; replace k_c5 := cell_kept k_c5 hdq; replace k_q0 := cell_kept k_q0 hdq; replace k_q1 := cell_kept k_q1 hdq; replace k_q2 := cell_kept k_q2 hdq; replace k_q3 := cell_kept k_q3 hdq; clear hdq))
            replace hb := hb.trans (hk.mono hb.size)
            clear c1 c5 q0 q1 q2 q3 HO hk SA
            have c1 := k_c1
            have c5 := k_c5
            have q0 := k_q0
            have q1 := k_q1
            have q2 := k_q2
            have q3 := k_q3
            have HO := k_o
            clear k_c1 k_c5 k_q0 k_q1 k_q2 k_q3 k_o
            have hiL : i < L.length := by rw [HLL.out]; exact hi
            have p1 := own_cells Std.enc_len HO.out HLL.out.symm hiL (j := 1) (v := .int .i64 s.points) (by rw [HLI.out hiL]; rfl)
            have f1 := HO.out.frozenAt (i * 4 + 1)
            obtain ⟨o1, g1⟩ := HO.out.stored (i * 4 + 1) (.int .i64 (s.points + 2))
            rw [std_set hiL 1 (by decide) _ (byed s) (by rw [HLI.out hiL]; rfl), HMAP.out] at o1
            replace c1 := g1.cell c1 (by simp; omega)
            replace c5 := g1.cell c5 (by simp; omega)
            replace hb := hb.grown g1 hb.size (fun k hk => by simp at hk; omega)
            have H1 := Lib.hid o1
            clear o1 g1
            go_wp2
            go_roundw
            case rel => exact ⟨k + 1, by omega, by go_num, H1, c1, c5, hb⟩
            case measure => simp [intOf]; omega
          | false =>
            have hbn : ¬ rs[k].b.toList = [] := fun e => by rw [e] at hbe; simp at hbe
            obtain ⟨i, j, h1, hi, h2, hj⟩ := known_game HKO.out hbe
            obtain ⟨_, _, _, _, hab⟩ := scores_game HRO.out hbe
            have hne := ne_of_names hi hj h1 h2 hab
            have HI1 := Lib.hid h1
            have HI2 := Lib.hid h2
            have hMAP : ((linesTo ms rs k).set i (scored (lineOf ms[i].name (rs.take k)) rs[k].sa rs[k].sb)).set j (scored (lineOf ms[j].name (rs.take k)) rs[k].sb rs[k].sa) = linesTo ms rs (k + 1) := by
              rw [linesTo_succ hlt]
              exact map_game HC.out hbe hi hj h1 h2 hne (fun m => lineOf m.name (rs.take k))
            have hLI : ∀ h : i < (linesTo ms rs k).length, (linesTo ms rs k)[i]'h = lineOf ms[i].name (rs.take k) := fun _ => linesTo_get hi
            have hLJ : ∀ h : j < (linesTo ms rs k).length, (linesTo ms rs k)[j]'h = lineOf ms[j].name (rs.take k) := fun _ => linesTo_get hj
            have HLL := Lib.hid (linesTo_len ms rs k)
            obtain ⟨z0, z1, z2, z3, z4, z5⟩ := lineOf_bd (nm := ms[i].name) HOK.out k hk
            obtain ⟨y0, y1, y2, y3, y4, y5⟩ := lineOf_bd (nm := ms[j].name) HOK.out k hk
            generalize lineOf ms[i].name (rs.take k) = s at *
            generalize lineOf ms[j].name (rs.take k) = u at *
            have HMAP := Lib.hid hMAP
            have HLI := Lib.hid hLI
            have HLJ := Lib.hid hLJ
            have HNE := Lib.hid hne
            clear hMAP hLI hLJ h1 h2 hab hne
            generalize linesTo ms rs k = L at *
            have hj0' : (0 : Int) ≤ (j : Int) := by omega
            have hj1' : (j : Int) < (ms.length : Int) := by omega
            have hi0' : (0 : Int) ≤ (i : Int) := by omega
            have hi1' : (i : Int) < (ms.length : Int) := by omega
            go_upto_region 10 with fail
            replace HO := Lib.hid (own_below HO.out hd)
            replace hb := hb.trans (hd.mono hb.size)
            replace c1 := cell_kept c1 hd
            replace c5 := cell_kept c5 hd
            clear hd
            obtain ⟨R, hR⟩ : ∃ R, R = wr.heap.size := ⟨_, rfl⟩
            rw [← hR] at q0 q1 q2 q3 ⊢
            have hRg : g < R := by rw [hR]; exact hgl.2
            clear hR
            generalize wr.alloc (.cells #[.string rs[k].a, .string rs[k].b, .int .i64 rs[k].sa, .int .i64 rs[k].sb] 39) = w3 at *
            have hk : Below w3.heap.size w3 w3.drew := (Below.refl _ _).drew
            have k_c1 := cell_kept c1 hk
            have k_c5 := cell_kept c5 hk
            have k_q0 := cell_kept q0 hk
            have k_q1 := cell_kept q1 hk
            have k_q2 := cell_kept q2 hk
            have k_q3 := cell_kept q3 hk
            have SA := Lib.hid (HM.out.kept hb)
            have k_o := Lib.hid (own_below HO.out hk)
            go_region_held3 (fun w' => w'.cell? ⟨w.heap.size + 1 + 1, 0, none⟩ = some (.slice (some ⟨g, 0, none⟩) ms.length cp) ∧ w'.cell? ⟨w.heap.size, 0, none⟩ = some (.slice a ms.length cap) ∧ w'.cell? ⟨R, 0, none⟩ = some (.string rs[k].a))
              (first | exact ⟨k_c5, k_c1, k_q0⟩ | exact ⟨cell_alloc k_c5 _, cell_alloc k_c1 _, cell_alloc k_q0 _⟩)
              ((go_at_call 62; refine (member_any ms rs[k].a a cap _ (SA.out.kept hk) (by omega)).mono ?_; rintro e wq ⟨rfl, hdq⟩; rw [HI1.out]; replace hk := hk.trans (hdq.mono hk.size); replace k_o := Lib.hid (own_below k_o.out hdq); replace k_c1 := cell_kept k_c1 hdq; replace k_c5 := cell_kept k_c5 hdq; replace k_q0 := cell_kept k_q0 hdq; replace k_q1 := cell_kept k_q1 hdq; replace k_q2 := cell_kept k_q2 hdq; replace k_q3 := cell_kept k_q3 hdq; clear hdq))
            replace hb := hb.trans (hk.mono hb.size)
            clear c1 c5 q0 q1 q2 q3 HO hk SA
            have c1 := k_c1
            have c5 := k_c5
            have q0 := k_q0
            have q1 := k_q1
            have q2 := k_q2
            have q3 := k_q3
            have HO := k_o
            clear k_c1 k_c5 k_q0 k_q1 k_q2 k_q3 k_o
            have hiL : i < L.length := by rw [HLL.out]; exact hi
            go_wp2_with fail
            refine (score_any L i ms.length g cp (w.heap.size + 1) rs[k].sa rs[k].sb _ hiL HLL.out.symm HO.out t0 t1 t2 t3 (by rw [HLI.out hiL]; omega) (by rw [HLI.out hiL]; omega) (by rw [HLI.out hiL]; omega) (by rw [HLI.out hiL]; omega) (by rw [HLI.out hiL]; omega) (by rw [HLI.out hiL]; omega)).mono ?_
            rintro e w5 ⟨rfl, ho5, hg5⟩
            rw [HLI.out hiL] at ho5
            replace c1 := hg5.cell c1 (by simp; omega)
            replace c5 := hg5.cell c5 (by simp; omega)
            replace q0 := hg5.cell q0 (by simp; omega)
            replace q1 := hg5.cell q1 (by simp; omega)
            replace q2 := hg5.cell q2 (by simp; omega)
            replace q3 := hg5.cell q3 (by simp; omega)
            replace hb := hb.grown hg5 hb.size (fun k hk => by simp at hk; omega)
            replace HO := Lib.hid ho5
            clear ho5 hg5
            have HL2 : Hid (ms.length = (L.set i (scored s rs[k].sa rs[k].sb)).length) := Lib.hid (by rw [List.length_set, HLL.out])
            have HG2 : Hid (∀ h : j < (L.set i (scored s rs[k].sa rs[k].sb)).length, (L.set i (scored s rs[k].sa rs[k].sb))[j]'h = u) := Lib.hid (fun h => by rw [List.getElem_set_ne HNE.out]; exact HLJ.out _)
            have hjL : j < (L.set i (scored s rs[k].sa rs[k].sb)).length := by rw [← HL2.out]; exact hj
            generalize L.set i (scored s rs[k].sa rs[k].sb) = L2 at *
            go_wp2_with fail
            have hk : Below w5.heap.size w5 w5.drew := (Below.refl _ _).drew
            have k_c5 := cell_kept c5 hk
            have k_c1 := cell_kept c1 hk
            have k_q1 := cell_kept q1 hk
            have k_q2 := cell_kept q2 hk
            have k_q3 := cell_kept q3 hk
            have SA := Lib.hid (HM.out.kept hb)
            have k_o := Lib.hid (own_below HO.out hk)
            go_region_held3 (fun w' => w'.cell? ⟨w.heap.size + 1 + 1, 0, none⟩ = some (.slice (some ⟨g, 0, none⟩) ms.length cp) ∧ w'.cell? ⟨w.heap.size, 0, none⟩ = some (.slice a ms.length cap) ∧ w'.cell? ⟨R, 1, none⟩ = some (.string rs[k].b) ∧ w'.cell? ⟨R, 2, none⟩ = some (.int .i64 rs[k].sa) ∧ w'.cell? ⟨R, 3, none⟩ = some (.int .i64 rs[k].sb))
              (first | exact ⟨k_c5, k_c1, k_q1, k_q2, k_q3⟩ | exact ⟨cell_alloc k_c5 _, cell_alloc k_c1 _, cell_alloc k_q1 _, cell_alloc k_q2 _, cell_alloc k_q3 _⟩)
              (first
                | (go_at_call 62; refine (member_any ms rs[k].b a cap _ (SA.out.kept hk) (by omega)).mono ?_; rintro e wq ⟨rfl, hdq⟩; rw [HI2.out]; replace hk := hk.trans (hdq.mono hk.size); replace k_o := Lib.hid (own_below k_o.out hdq); replace k_c5 := cell_kept k_c5 hdq; replace k_c1 := cell_kept k_c1 hdq; replace k_q1 := cell_kept k_q1 hdq; replace k_q2 := cell_kept k_q2 hdq; replace k_q3 := cell_kept k_q3 hdq; clear hdq)
                | (go_at_call 121; refine (score_any L2 j ms.length g cp (w.heap.size + 1) rs[k].sb rs[k].sa _ hjL HL2.out k_o.out t2 t3 t0 t1 (by rw [HG2.out hjL]; omega) (by rw [HG2.out hjL]; omega) (by rw [HG2.out hjL]; omega) (by rw [HG2.out hjL]; omega) (by rw [HG2.out hjL]; omega) (by rw [HG2.out hjL]; omega)).mono ?_; rintro e wq ⟨rfl, ho6, hg6⟩; have hbq := (hb.trans (hk.mono hb.size)).grown hg6 (Nat.le_trans hb.size hk.size) (fun k hk => by simp at hk; omega); replace k_o := Lib.hid ho6; replace k_c5 := hg6.cell k_c5 (by simp; omega); replace k_c1 := hg6.cell k_c1 (by simp; omega); replace k_q1 := hg6.cell k_q1 (by simp; omega); replace k_q2 := hg6.cell k_q2 (by simp; omega); replace k_q3 := hg6.cell k_q3 (by simp; omega); clear ho6 hg6 hk))
            have H1 : Hid (wq.ownsRow (w.heap.size + 1) 74 4 (.slice (some ⟨g, 0, none⟩) ms.length cp) ms.length ((linesTo ms rs (k + 1)).flatMap Std.enc)) := by
              rw [← HMAP.out, ← HG2.out hjL]
              exact k_o
            go_wp2
            go_roundw
            case rel => exact ⟨k + 1, by omega, by go_num, H1, k_c1, k_c5, hbq⟩
            case measure => simp [intOf]; omega
        · have hend : k = rs.length := by omega
          subst hend
          have HLN := Lib.hid (linesTo_len ms rs rs.length)
          have hLL : linesTo ms rs rs.length = ms.map fun m => lineOf m.name rs := by unfold linesTo; rw [List.take_length]
          have HSRT := Lib.hid (sort_lines HC.out rs)
          rw [← hLL] at HSRT
          clear hLL
          have hgw := HO.out.lt g rfl
          have HS := Lib.hid (sortStd_any (linesTo ms rs rs.length) 122 #[.pointer (some ⟨w.heap.size + 1 + 1, 0, none⟩)] stdLess (w.heap.size + 1) g cp wr (fun args w => callFunc_enter Try.func122 (by kernel_rfl) rfl args w)
            (stdLessB (w.heap.size + 1 + 1) g cp _ _ _ (by rw [HLN.out]; exact c5) (by omega)) (by rw [HLN.out]; exact HO.out) (by rw [HLN.out]; omega))
          rw [HLN.out, HSRT.out] at HS
          go_wp2_with fail
          refine HS.out.mono ?_
          rintro e w6 ⟨rfl, O7, hg7⟩
          replace c5 := hg7.cell c5 (by simp; omega)
          replace hb := hb.grown hg7 hb.size (fun k hk => by simp at hk; omega)
          have H7 := Lib.hid (own_mono O7 (show w.heap.size ≤ w.heap.size + 1 by omega))
          clear O7 hg7 HS
          have HTL := Lib.hid (tableOf_len ms rs)
          go_wp2
          go_ret
          refine ⟨some ⟨g, 0, none⟩, cp, ?_, ?_, hb⟩
          · rw [HTL.out]; rfl
          · rw [HTL.out]; exact H7.out
end Go.Proofs.Ytpodkgfapbcmlaa
