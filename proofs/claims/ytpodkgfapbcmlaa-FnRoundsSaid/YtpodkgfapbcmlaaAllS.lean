/- Contract: spec.RateAll. · Contract: impl.RateAll. -/
import Derived.Test.YtpodkgfapbcmlaaAll
import Derived.Deep.DeepMust
namespace Go.Proofs.Ytpodkgfapbcmlaa
open Go.ChangeShapes Go.WideShapes Go.ChangeAt Go.RowKit Go.Sort

/-- append of a source that may be nil (then it is empty) -/
theorem wpList_append_opt {P : Program} {w : World} {ops : Array Oper} {rest : List Oper} {o : Oper} {a : Act} {Q : Exit → Act → World → Prop} (hgd : o.guard = none) (s x : Operand) (t : TypeId)
    (ho : o.op = .call { callee := .builtin .append, args := #[s, x], argTypes := #[t, t] })
    (base : Nat) (e : TypeId) (i : TypeInfo) (z : Value) (size bytes : Nat) (ht : P.underlying t = some (.slice e)) (hi : P.info? e = some i) (hz : i.zero = some z)
    (hsize : i.size = size) (hby : i.bytes = bytes) (hzs : z.cells.size = size) (hsz : 0 < size)
    (v : Value) (n : Nat) (xs : List Value) (hs : a.eval s = v) (hown : w.ownsRow base e size v n xs)
    (aq : Option Addr) (m c : Nat) (news : List Value) (hx : a.eval x = .slice aq m c) (hnil : aq = none → m = 0 ∧ c = 0) (hl : news.length = m * size) (hnews : ∀ ad, aq = some ad → ∀ j u, news[j]? = some u → w.cell? (ad.add j) = some u) (h1 : ∀ u ∈ news, u.oneCell' = true)
    (h63 : n + m ≤ maxLen) (hbytes : (n + m) * bytes ≤ 140737488355328) (hbase : base ≤ w.heap.size)
    (h : ∀ v' w', w'.ownsRow base e size v' (n + m) (xs ++ news) → w.grownBy w' v.ownBlock → wpList P ops Q rest (a.put o.dst v') w') : wpList P ops Q (o :: rest) a w := by
  cases aq with
  | none =>
    obtain ⟨rfl, rfl⟩ := hnil rfl
    obtain rfl : news = [] := List.length_eq_zero_iff.1 (by rw [hl, Nat.zero_mul])
    refine wpList_append_own_none hgd s x t ho base e i size ht hi v n xs hs hown hx (h v w ?_ ⟨rfl, rfl, rfl, Nat.le_refl _, fun _ _ _ => rfl⟩)
    rw [List.append_nil]
    exact hown
  | some ad => exact wpList_append_own (P := P) w hgd s x t ho base e i z size bytes ht hi hz hsize hby hzs hsz v n xs hs hown ad m c news hx hl (hnews ad rfl) h1 h63 hbytes hbase (fun v' w' h2 h3 _ => h v' w' h2 h3)
theorem cell_far' {w : World} {b o g : Nat} {v : Value} (h : w.cell? ⟨b, o, none⟩ = some v) (hne : b ≠ g) (u : Value) : (w.setCell ⟨g, 0, none⟩ u).cell? ⟨b, o, none⟩ = some v := by
  rw [World.cell?_setCell_other _ _ _ _ (fun e => hne (by simp only [Addr.mk.injEq] at e; exact e.1.symm))]
  exact h
set_option maxHeartbeats 4000000 in
theorem specRateAll_anyN (ms : List Mem) (rs : List Res) (aq : Option Addr) (ra : Option Addr) (cap rcap : Nat) (w : World) (hm : SliceAt w 2 Mem.enc aq ms) (hn : aq = none → ms = [] ∧ cap = 0) (hr : SliceAt w 4 Res.enc ra rs) (hl : ms.length ≤ 1048576) (hlr : rs.length ≤ 1048576) (hf : MemsFit ms) (hfr : ResFit rs) :
    Calls Try.prog 24 #[.agg #[.slice aq ms.length cap], .slice ra rs.length rcap] w (ClubCode w (rateAll ms rs)) := by
  have HM := Lib.hid hm; clear hm
  have HNN := Lib.hid hn; clear hn
  have HRS := Lib.hid hr; clear hr
  have HFR := Lib.hid hfr; clear hfr
  obtain ⟨i0, hi0, hz0, hz1, hz2⟩ := info_parts infoMember
  -- the world behind the boxes
  obtain ⟨w1, hw1⟩ : ∃ w1, w1 = (w.alloc (.cells #[.slice aq ms.length cap] 30)).alloc (.cells #[.slice none 0 0] 30) := ⟨_, rfl⟩
  have hb : Below w.heap.size w w1 := by rw [hw1]; exact ((Below.refl _ _).alloc (Nat.le_refl _) _).alloc (by simp) _
  have c1 : w1.cell? ⟨w.heap.size, 0, none⟩ = some (.slice aq ms.length cap) := by rw [hw1]; exact cell_alloc (cell_new0 w _ _ rfl) _
  have d1 : w1.cell? ⟨w.heap.size + 1, 0, none⟩ = some (.slice none 0 0) := by
    rw [hw1]
    simp
  have f1 : w1.frozen? ⟨w.heap.size + 1, 0, none⟩ = false := by rw [hw1]; simp [go_sem]
  have HW1 := Lib.hid hw1; clear hw1
  cases hcode : (codeOf ms rs == 0) with
  | false =>
    have hcd : codeOf ms rs ≠ 0 := by simpa using hcode
    have HR := Lib.hid (rateAll_bad hcd)
    have HCN := Lib.hid hcd
    clear hcode hcd hi0 hz0 hz1 hz2
    go_enter Try.func24, Try.ntmps24
    go_wp2_with fail
    rw [← HW1.out]
    refine (l26Code_any ms rs _ 0 aq ra cap rcap w1 c1 (HM.out.kept hb) (HRS.out.kept hb) hl hlr hf HFR.out).mono ?_
    rintro e w3 ⟨rfl, hd⟩
    replace c1 := (hd.cell ⟨w.heap.size, 0, none⟩).trans c1
    replace d1 := (hd.cell ⟨w.heap.size + 1, 0, none⟩).trans d1
    replace f1 := (hd.frozen ⟨w.heap.size + 1, 0, none⟩).trans f1
    replace hb := hb.trans ((hd.below _).mono hb.size)
    clear hd
    generalize hcg : codeOf ms rs = code at *
    have hcn := HCN.out
    clear hcg
    have hFin : (w3.setCell ⟨w.heap.size + 1, 0, none⟩ (.slice none 0 0)).cell? ⟨w.heap.size + 1, 0, none⟩ = some (.slice none 0 0) := by go_cell
    go_wp2
    refine bodyPost_ret (v := .tuple #[.agg #[.slice none 0 0], .int .i64 code]) (by simp [results, Try.results24, go_sem, hFin]) rfl ?_
    rw [HR.out]
    exact ⟨none, 0, rfl, by simpa using World.ownsRow_nil _ w.heap.size 56 2, hb.setCell (by simp) _⟩
  | true =>
    have hcd : codeOf ms rs = 0 := by simpa using hcode
    have HR := Lib.hid (rateAll_ok hcd)
    obtain ⟨z1, z2, z3, _⟩ := code_zero hcd
    have HINV := Lib.hid (ratesAll_inv (ratings_of z1) z2 z3)
    have HOK := Lib.hid z2
    have HKN := Lib.hid z3
    have HCD := Lib.hid hcd
    clear hcode hcd z1 z2 z3
    go_enter Try.func24, Try.ntmps24
    go_wp2_with fail
    rw [← HW1.out]
    refine (l26Code_any ms rs _ 0 aq ra cap rcap w1 c1 (HM.out.kept hb) (HRS.out.kept hb) hl hlr hf HFR.out).mono ?_
    rintro e w3 ⟨rfl, hd⟩
    replace c1 := (hd.cell ⟨w.heap.size, 0, none⟩).trans c1
    replace d1 := (hd.cell ⟨w.heap.size + 1, 0, none⟩).trans d1
    replace f1 := (hd.frozen ⟨w.heap.size + 1, 0, none⟩).trans f1
    replace hb := hb.trans ((hd.below _).mono hb.size)
    clear hd
    rw [HCD.out]
    have hnews : ∀ ad, aq = some ad → ∀ j u, (ms.flatMap Mem.enc)[j]? = some u → (w3.alloc (.cells #[] 56)).cell? (ad.add j) = some u := by
      rintro ad rfl j u hj
      rcases HM.out.kept hb with rfl | ⟨b, off, hab, hcs⟩
      · simp at hj
      · simp only [Option.some.injEq] at hab
        subst hab
        exact cell_alloc (cellsAt_row Mem.enc_len (by decide) hcs j u hj) _
    have hown := World.ownsRow_made (base := w3.heap.size) (e := 56) (size := 2) w3 #[] 0 (Nat.le_refl _) (by unfold maxLen; omega) rfl
    have hfl : (ms.flatMap Mem.enc).length = ms.length * 2 := flatMap_len Mem.enc_len ms
    have HN := Lib.hid hnews
    have HO := Lib.hid hown
    have HFL := Lib.hid hfl
    have hlt1 := block_lt d1
    have cA := cell_alloc c1 (.cells #[] 56)
    have HNIL : Hid (aq = none → ms.length = 0 ∧ cap = 0) := Lib.hid (fun h => ⟨by rw [(HNN.out h).1]; rfl, (HNN.out h).2⟩)
    clear hnews hown hfl
    go_wp2_with (at_builtin; go_must (refine wpList_append_opt rfl (.tmp 17) (.tmp 19) 28 rfl w3.heap.size 56 i0 _ 2 24 Try.underlying28 hi0 hz0 hz1 hz2 rfl (by decide) _ 0 [] rfl HO.out aq ms.length cap (ms.flatMap Mem.enc) rfl HNIL.out HFL.out HN.out (mem_oneCell ms) ?c1 ?c2 ?c3 ?_))
    case c1 => unfold maxLen; omega
    case c2 => omega
    case c3 => simp
    intro v' w4 hown4 hgr
    obtain ⟨a', cap', hv⟩ := own_shape hown4
    rw [hv] at hown4
    rw [hv]
    have hd : Below w3.heap.size w3 w4 := below_grown ((Below.refl w3.heap.size w3).alloc (Nat.le_refl _) (.cells #[] 56)) (by simp) hgr (Nat.le_refl _)
    replace f1 := frozen_kept f1 d1 hd
    replace d1 := cell_kept d1 hd
    replace hb := hb.trans (hd.mono hb.size)
    have HO4 := Lib.hid (own_mono hown4 (base' := w.heap.size + 2) (by omega))
    clear hown4 hgr hv hd cA c1 HN HO HFL
    go_wp2_with fail
    have h7 : w.heap.size + 2 ≤ w4.heap.size := by have := block_lt d1; omega
    have hx : Below w4.heap.size w4 (w4.alloc (.cells #[.slice a' ms.length cap'] 30)) := (Below.refl _ _).alloc (Nat.le_refl _) _
    have c7 := cell_new0 w4 #[.slice a' ms.length cap'] 30 (i := 0) (v := .slice a' ms.length cap') rfl
    have f7 : (w4.alloc (.cells #[.slice a' ms.length cap'] 30)).frozen? ⟨w4.heap.size, 0, none⟩ = false := by simp [go_sem]
    replace f1 := frozen_kept f1 d1 hx
    replace d1 := cell_kept d1 hx
    replace hb := hb.trans (hx.mono hb.size)
    have HO5 := Lib.hid (own_below HO4.out hx)
    generalize w4.alloc (.cells #[.slice a' ms.length cap'] 30) = w5 at *
    clear HO4 hx
    go_loopw [8] (fun i wr => ∃ k : Nat, k ≤ rs.length ∧ i = .int .i64 k ∧ (∃ ak ck, wr.cell? ⟨w4.heap.size, 0, none⟩ = some (.slice ak (ratesAll ms (rs.take k)).length ck) ∧ Hid (wr.ownsRow (w.heap.size + 2) 56 2 (.slice ak (ratesAll ms (rs.take k)).length ck) (ratesAll ms (rs.take k)).length ((ratesAll ms (rs.take k)).flatMap Mem.enc))) ∧ wr.frozen? ⟨w4.heap.size, 0, none⟩ = false ∧ wr.cell? ⟨w.heap.size + 1, 0, none⟩ = some (.slice none 0 0) ∧ wr.frozen? ⟨w.heap.size + 1, 0, none⟩ = false ∧ Below w.heap.size w wr) (fun i _ => rs.length - (intOf i).toNat)
    case atStart => exact ⟨0, Nat.zero_le _, rfl, ⟨a', cap', c7, HO5⟩, f7, d1, f1, hb⟩
    case round =>
      clear c7 f7 d1 f1 hb HO5
      obtain ⟨k, hk, rfl, ⟨ak, ck, c7, HO7⟩, f7, d1, f1, hb⟩ := hrel
      have h8 := block_lt c7
      have S7 := Lib.hid (own_slice Mem.enc_len HO7.out rfl)
      have hn7 := Lib.hid (own_nil HO7.out rfl)
      by_cases hlt : k < rs.length
      · obtain ⟨xb, xo, rfl, hcs⟩ := (HRS.out.kept hb).open hlt
        have HRA := Lib.hid (resAt_of hcs hlt)
        obtain ⟨hnm, hrt⟩ := HINV.out k hk
        have hLl : (ratesAll ms (rs.take k)).length ≤ 1048576 := by rw [names_len hnm]; exact hl
        have HK1 := Lib.hid (List.all_eq_true.1 HOK.out _ (List.getElem_mem hlt))
        have HK2 := Lib.hid ((known_names hnm rs[k]).trans (List.all_eq_true.1 HKN.out _ (List.getElem_mem hlt)))
        have HRT := Lib.hid hrt
        have HSUCC := Lib.hid (ratesAll_succ (ms := ms) hlt)
        clear hcs hnm hrt
        generalize ratesAll ms (rs.take k) = L at *
        go_wp2_with fail
        refine (l26Rate_any L rs[k] ak ck _ 0 xb _ wr c7 S7.out HRA.out hn7.out hLl HK1.out HK2.out HRT.out).mono ?_
        rintro e w6 ⟨a8, cap8, rfl, o8, hd⟩
        replace f7 := frozen_kept f7 c7 hd
        replace c7 := cell_kept c7 hd
        replace f1 := frozen_kept f1 d1 hd
        replace d1 := cell_kept d1 hd
        replace hb := hb.trans (hd.mono hb.size)
        have hx : Below w6.heap.size w6 (w6.alloc (.cells #[.slice a8 (rateOf L rs[k]).1.length cap8] 30)) := (Below.refl _ _).alloc (Nat.le_refl _) _
        replace f7 := frozen_kept f7 c7 hx
        replace c7 := cell_kept c7 hx
        replace f1 := frozen_kept f1 d1 hx
        replace d1 := cell_kept d1 hx
        replace hb := hb.trans (hx.mono hb.size)
        have HO9 := Lib.hid (own_below o8 hx)
        clear o8 hx hd S7 hn7 HO7 HRA HK1 HK2 HRT
        go_wp2
        go_roundw
        case rel =>
          refine ⟨k + 1, by omega, by go_num, ?_, ?_, ?_, ?_, ?_⟩
          · rw [HSUCC.out]
            exact ⟨a8, cap8, World.cell?_setCell_same _ _ _ c7, own_mono (own_setCell HO9.out h8 _) (by omega)⟩
          · rw [World.frozen?_setCell]; exact f7
          · exact cell_far' d1 (by omega) _
          · rw [World.frozen?_setCell]; exact f1
          · exact hb.setCell (by simp only; omega) _
        case measure => simp [intOf]; omega
      · have hend : rs.take k = rs := List.take_of_length_le (by omega)
        rw [hend] at c7 HO7
        generalize ratesAll ms rs = L at *
        have hFin : (wr.setCell ⟨w.heap.size + 1, 0, none⟩ (.slice ak L.length ck)).cell? ⟨w.heap.size + 1, 0, none⟩ = some (.slice ak L.length ck) := by go_cell
        go_wp2
        refine bodyPost_ret (v := .tuple #[.agg #[.slice ak L.length ck], .int .i64 0]) (by simp [results, Try.results24, go_sem, hFin]) rfl ?_
        rw [HR.out]
        exact ⟨ak, ck, rfl, own_mono (own_setCell HO7.out (by omega) _) (by omega), hb.setCell (by simp) _⟩
theorem specRateAll_any (ms : List Mem) (rs : List Res) (ad : Addr) (ra : Option Addr) (cap rcap : Nat) (w : World) (hm : SliceAt w 2 Mem.enc (some ad) ms) (hr : SliceAt w 4 Res.enc ra rs) (hl : ms.length ≤ 1048576) (hlr : rs.length ≤ 1048576) (hf : MemsFit ms) (hfr : ResFit rs) :
    Calls Try.prog 24 #[.agg #[.slice (some ad) ms.length cap], .slice ra rs.length rcap] w (ClubCode w (rateAll ms rs)) :=
  specRateAll_anyN ms rs (some ad) ra cap rcap w hm (by simp) hr hl hlr hf hfr

end Go.Proofs.Ytpodkgfapbcmlaa

namespace Go.Proofs.Ytpodkgfapbcmlaa
open Go.ChangeShapes Go.WideShapes Go.ChangeAt Go.RowKit Go.Sort

set_option maxRecDepth 100000 in
set_option maxHeartbeats 4000000 in
theorem RateAll_anyN (ms : List Mem) (rs : List Res) (aq : Option Addr) (ra : Option Addr) (cap rcap : Nat) (w : World) (hm : SliceAt w 2 Mem.enc aq ms) (hn : aq = none → ms = [] ∧ cap = 0) (hr : SliceAt w 4 Res.enc ra rs) (hl : ms.length ≤ 1048576) (hlr : rs.length ≤ 1048576) (hf : MemsFit ms) (hfr : ResFit rs) :
    Calls Try.prog 26 #[.agg #[.slice aq ms.length cap], .slice ra rs.length rcap] w (ClubCode w (rateAll ms rs)) := by
  have HM := Lib.hid hm; clear hm
  have HNN := Lib.hid hn; clear hn
  have HRS := Lib.hid hr; clear hr
  have HFR := Lib.hid hfr; clear hfr
  obtain ⟨i0, hi0, hz0, hz1, hz2⟩ := info_parts infoMember
  -- the world behind the boxes
  obtain ⟨w1, hw1⟩ : ∃ w1, w1 = (w.alloc (.cells #[.slice aq ms.length cap] 30)).alloc (.cells #[.slice none 0 0] 30) := ⟨_, rfl⟩
  have hb : Below w.heap.size w w1 := by rw [hw1]; exact ((Below.refl _ _).alloc (Nat.le_refl _) _).alloc (by simp) _
  have c1 : w1.cell? ⟨w.heap.size, 0, none⟩ = some (.slice aq ms.length cap) := by rw [hw1]; exact cell_alloc (cell_new0 w _ _ rfl) _
  have d1 : w1.cell? ⟨w.heap.size + 1, 0, none⟩ = some (.slice none 0 0) := by
    rw [hw1]
    simp
  have f1 : w1.frozen? ⟨w.heap.size + 1, 0, none⟩ = false := by rw [hw1]; simp [go_sem]
  have HW1 := Lib.hid hw1; clear hw1
  cases hcode : (codeOf ms rs == 0) with
  | false =>
    have hcd : codeOf ms rs ≠ 0 := by simpa using hcode
    have HR := Lib.hid (rateAll_bad hcd)
    have HCN := Lib.hid hcd
    clear hcode hcd hi0 hz0 hz1 hz2
    go_enter Try.func26, Try.ntmps26
    go_wp2_with fail
    rw [← HW1.out]
    refine (resultsCode_any ms rs aq ra cap rcap w1 (HM.out.kept hb) (HRS.out.kept hb) hl hlr hf HFR.out).mono ?_
    rintro e w3 ⟨rfl, hd⟩
    replace c1 := cell_kept c1 hd
    replace f1 := frozen_kept f1 d1 hd
    replace d1 := cell_kept d1 hd
    replace hb := hb.trans (hd.mono hb.size)
    clear hd
    generalize hcg : codeOf ms rs = code at *
    have hcn := HCN.out
    clear hcg
    have hFin : (w3.setCell ⟨w.heap.size + 1, 0, none⟩ (.slice none 0 0)).cell? ⟨w.heap.size + 1, 0, none⟩ = some (.slice none 0 0) := by go_cell
    go_wp2
    refine bodyPost_ret (v := .tuple #[.agg #[.slice none 0 0], .int .i64 code]) (by simp [results, Try.results26, go_sem, hFin]) rfl ?_
    rw [HR.out]
    exact ⟨none, 0, rfl, by simpa using World.ownsRow_nil _ w.heap.size 56 2, hb.setCell (by simp) _⟩
  | true =>
    have hcd : codeOf ms rs = 0 := by simpa using hcode
    have HR := Lib.hid (rateAll_ok hcd)
    obtain ⟨z1, z2, z3, _⟩ := code_zero hcd
    have HINV := Lib.hid (ratesAll_inv (ratings_of z1) z2 z3)
    have HOK := Lib.hid z2
    have HKN := Lib.hid z3
    have HCD := Lib.hid hcd
    clear hcode hcd z1 z2 z3
    go_enter Try.func26, Try.ntmps26
    go_wp2_with fail
    rw [← HW1.out]
    refine (resultsCode_any ms rs aq ra cap rcap w1 (HM.out.kept hb) (HRS.out.kept hb) hl hlr hf HFR.out).mono ?_
    rintro e w3 ⟨rfl, hd⟩
    replace c1 := cell_kept c1 hd
    replace f1 := frozen_kept f1 d1 hd
    replace d1 := cell_kept d1 hd
    replace hb := hb.trans (hd.mono hb.size)
    clear hd
    rw [HCD.out]
    go_wp2_with fail
    refine (cloneMem_any ms aq cap w3 (HM.out.kept hb) hl (fun h => (HNN.out h).1)).mono ?_
    rintro e w4 ⟨a', cap', rfl, ho4, hd⟩
    have hlt1 := block_lt d1
    replace f1 := frozen_kept f1 d1 hd
    replace d1 := cell_kept d1 hd
    replace hb := hb.trans (hd.mono hb.size)
    have HO4 := Lib.hid (own_mono ho4 (base' := w.heap.size + 2) (by omega))
    have HLT := Lib.hid ho4.lt
    clear ho4 hd c1
    go_wp2_with fail
    have hx : Below w4.heap.size w4 (w4.alloc (.cells #[.slice a' ms.length cap'] 30)) := (Below.refl _ _).alloc (Nat.le_refl _) _
    have c7 := cell_new0 w4 #[.slice a' ms.length cap'] 30 (i := 0) (v := .slice a' ms.length cap') rfl
    have f7 : (w4.alloc (.cells #[.slice a' ms.length cap'] 30)).frozen? ⟨w4.heap.size, 0, none⟩ = false := by simp [go_sem]
    replace f1 := frozen_kept f1 d1 hx
    have h7 := block_lt d1
    replace d1 := cell_kept d1 hx
    replace hb := hb.trans (hx.mono hb.size)
    have HO5 := Lib.hid (own_below HO4.out hx)
    generalize w4.alloc (.cells #[.slice a' ms.length cap'] 30) = w5 at *
    clear HO4 hx
    go_loopw [23] (fun i wr => ∃ k : Nat, k ≤ rs.length ∧ i = .int .i64 k ∧ wr.cell? ⟨w4.heap.size, 0, none⟩ = some (.slice a' ms.length cap') ∧ Hid (wr.ownsRow (w.heap.size + 2) 56 2 (.slice a' ms.length cap') ms.length ((ratesAll ms (rs.take k)).flatMap Mem.enc)) ∧ wr.cell? ⟨w.heap.size + 1, 0, none⟩ = some (.slice none 0 0) ∧ wr.frozen? ⟨w.heap.size + 1, 0, none⟩ = false ∧ Below w.heap.size w wr) (fun i _ => rs.length - (intOf i).toNat)
    case atStart => exact ⟨0, Nat.zero_le _, rfl, c7, HO5, d1, f1, hb⟩
    case round =>
      clear c7 f7 d1 f1 hb HO5
      obtain ⟨k, hk, rfl, c7, HO7, d1, f1, hb⟩ := hrel
      by_cases hlt : k < rs.length
      · obtain ⟨xb, xo, rfl, hcs⟩ := (HRS.out.kept hb).open hlt
        obtain ⟨q0, q1, q2, q3⟩ := resAt_of hcs hlt
        obtain ⟨hnm, hrt⟩ := HINV.out k hk
        have HL := Lib.hid (names_len hnm)
        have HK1 := Lib.hid (List.all_eq_true.1 HOK.out _ (List.getElem_mem hlt))
        have HK2 := Lib.hid ((known_names hnm rs[k]).trans (List.all_eq_true.1 HKN.out _ (List.getElem_mem hlt)))
        have HRT := Lib.hid hrt
        have HSUCC := Lib.hid (ratesAll_succ (ms := ms) hlt)
        clear hcs hnm hrt
        generalize ratesAll ms (rs.take k) = L at *
        have hx : Below wr.heap.size wr (wr.alloc (.cells #[.string rs[k].a, .string rs[k].b, .int .i64 rs[k].sa, .int .i64 rs[k].sb] 39)) := (Below.refl _ _).alloc (Nat.le_refl _) _
        replace c7 := cell_kept c7 hx
        replace f1 := frozen_kept f1 d1 hx
        replace d1 := cell_kept d1 hx
        replace hb := hb.trans (hx.mono hb.size)
        replace HO7 := Lib.hid (own_below HO7.out hx)
        go_wp2_with fail
        generalize wr.alloc (.cells #[.string rs[k].a, .string rs[k].b, .int .i64 rs[k].sa, .int .i64 rs[k].sb] 39) = w6 at *
        have hcall := rate_any L rs[k] a' cap' (w.heap.size + 2) w6 (by rw [HL.out]; exact HO7.out) (by rw [HL.out]; exact hl) HK1.out HK2.out HRT.out
        rw [HL.out] at hcall
        refine hcall.mono ?_
        rintro e w7 ⟨rfl, ho, hg⟩
        have hneb : ∀ b, b < w3.heap.size ∨ b = w4.heap.size → some b ≠ (Value.slice a' ms.length cap').ownBlock := fun b h e => by
          have := HLT.out b e.symm
          omega
        replace c7 := hg.cell c7 (hneb _ (.inr rfl))
        replace f1 : w7.frozen? ⟨w.heap.size + 1, 0, none⟩ = false := by
          rw [World.frozen?_of_block (hg.block (w.heap.size + 1) (block_lt d1) (hneb _ (.inl hlt1)))]
          exact f1
        replace d1 := hg.cell d1 (hneb _ (.inl hlt1))
        replace hb := hb.grown hg hb.size (fun j hj => by have := (HLT.out j hj).1; omega)
        have HO8 := Lib.hid ho
        clear hcall ho hg hneb HO7 hx q0 q1 q2 q3
        go_wp2
        go_roundw
        case rel =>
          refine ⟨k + 1, by omega, by go_num, c7, ?_, d1, f1, hb⟩
          rw [HSUCC.out]
          exact HO8
        case measure => simp [intOf]; omega
      · have hend : rs.take k = rs := List.take_of_length_le (by omega)
        have hLe := names_len (HINV.out rs.length (Nat.le_refl _)).1
        rw [List.take_length] at hLe
        rw [hend] at HO7
        have HLE := Lib.hid hLe
        clear hLe
        have hFin : (wr.setCell ⟨w.heap.size + 1, 0, none⟩ (.slice a' ms.length cap')).cell? ⟨w.heap.size + 1, 0, none⟩ = some (.slice a' ms.length cap') := by go_cell
        go_wp2
        refine bodyPost_ret (v := .tuple #[.agg #[.slice a' ms.length cap'], .int .i64 0]) (by simp [results, Try.results26, go_sem, hFin]) rfl ?_
        rw [HR.out]
        refine ⟨a', cap', by simp only [HLE.out], ?_, hb.setCell (by simp) _⟩
        simp only [HLE.out]
        exact own_mono (own_setCell HO7.out (by omega) _) (by omega)
theorem RateAll_any (ms : List Mem) (rs : List Res) (ad : Addr) (ra : Option Addr) (cap rcap : Nat) (w : World) (hm : SliceAt w 2 Mem.enc (some ad) ms) (hr : SliceAt w 4 Res.enc ra rs) (hl : ms.length ≤ 1048576) (hlr : rs.length ≤ 1048576) (hf : MemsFit ms) (hfr : ResFit rs) :
    Calls Try.prog 26 #[.agg #[.slice (some ad) ms.length cap], .slice ra rs.length rcap] w (ClubCode w (rateAll ms rs)) :=
  RateAll_anyN ms rs (some ad) ra cap rcap w hm (by simp) hr hl hlr hf hfr

end Go.Proofs.Ytpodkgfapbcmlaa
