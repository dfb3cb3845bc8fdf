/- Contract: the reference's draw of two clubs that are mostly the same. Nothing is said of them but that they can be read. -/
import Derived.Test.YtlbnjdgfggiifaaGreatDoorCtD
namespace Go.Proofs.YtlbnjdgfggiifaaGreatDoor
open Go.ChangeShapes Go.WideShapes Go.ChangeAt Go.RowKit Go.Sort

theorem wpList_append_ct {P : Program} {w : World} {ops : Array Oper} {rest : List Oper} {o : Oper} {a : Act} {Q : Exit → Act → World → Prop} (hgd : o.guard = none) (s x : Operand) (t : TypeId)
    (ho : o.op = .call { callee := .builtin .append, args := #[s, x], argTypes := #[t, t] })
    (base : Nat) (e : TypeId) (i : TypeInfo) (z : Value) (size bytes : Nat) (ht : P.underlying t = some (.slice e)) (hi : P.info? e = some i) (hz : i.zero = some z)
    (hsize : i.size = size) (hby : i.bytes = bytes) (hzs : z.cells.size = size) (hsz : 0 < size)
    (v : Value) (n : Nat) (xs : List Value) (hs : a.eval s = v) (hown : w.ownsRow base e size v n xs)
    (aq : Option Addr) (m c : Nat) (news : List Value) (hx : a.eval x = .slice aq m c) (hnil : aq = none → m = 0 ∧ c = 0) (hl : news.length = m * size) (hnews : ∀ ad, aq = some ad → ∀ j u, news[j]? = some u → w.cell? (ad.add j) = some u) (h1 : ∀ u ∈ news, u.oneCell' = true)
    (h63 : n + m ≤ maxLen) (hbytes : (n + m) * bytes ≤ 140737488355328) (hbase : base ≤ w.heap.size)
    (h : ∀ v' w', w'.ownsRow base e size v' (n + m) (xs ++ news) → w.grownBy w' v.ownBlock → wpList P ops Q rest (a.put o.dst v') w') : wpList P ops Q (o :: rest) a w := by
  cases aq with
  | none =>
    obtain ⟨rfl, rfl⟩ := hnil rfl
    obtain rfl : news = [] := List.length_eq_zero_iff.1 (by rw [hl, Nat.zero_mul])
    refine wpList_append_own_none hgd s x t ho base e i size ht hi v n xs hs hown hx (h v w ?_ ⟨rfl, rfl, rfl, Nat.le_refl _, fun _ _ _ => rfl⟩)
    rw [List.append_nil]
    exact hown
  | some ad => exact wpList_append_own (P := P) w hgd s x t ho base e i z size bytes ht hi hz hsize hby hzs hsz v n xs hs hown ad m c news hx hl (hnews ad rfl) h1 h63 hbytes hbase (fun v' w' h2 h3 _ => h v' w' h2 h3)
theorem own_nilc {w : World} {base : Nat} {e : TypeId} {sz n cap : Nat} {a : Option Addr} {ms : List Mem} {L : List Value} (h : w.ownsRow base e sz (.slice a n cap) n L) (hn : n = ms.length) : a = none → ms = [] ∧ cap = 0 := by
  rintro rfl
  rcases h.2 with ⟨h0, h1⟩ | ⟨g, c, _, h0, _⟩
  · simp only [Value.slice.injEq] at h0
    exact ⟨List.length_eq_zero_iff.1 (by omega), h0.2.2⟩
  · simp at h0
/-- two clubs that were drawn -/
def SameOut (w : World) (e : Ending) (w' : World) : Prop :=
  ∃ (a : Option Addr) (cap : Nat) (xs : List Mem) (b : Option Addr) (cb : Nat) (ys : List Mem), e = .returned (.tuple #[.agg #[.slice a xs.length cap], .agg #[.slice b ys.length cb]]) ∧ SliceAt w' 2 Mem.enc a xs ∧ SliceAt w' 2 Mem.enc b ys ∧ xs.length ≤ 1048576 ∧ ys.length ≤ 1048576 ∧ Below w.heap.size w w'
set_option maxRecDepth 100000 in
set_option maxHeartbeats 4000000 in
theorem DrawSameClub_any (ca : Option Addr) (ccap : Nat) (bs : List Int) (w : World) (hc : CodeAt w w.heap.size ca bs) : Calls Tryz.prog 18 #[.slice ca bs.length ccap] w (SameOut w) := by
  obtain ⟨i0, hi0, hz0, hz1', hz2'⟩ := info_parts infoMember
  obtain ⟨w1, hw1⟩ : ∃ w1, w1 = (w.alloc (.cells #[.slice none 0 0] 26)).alloc (.cells #[.slice none 0 0] 26) := ⟨_, rfl⟩
  have hb : Below w.heap.size w w1 := by rw [hw1]; exact ((Below.refl _ _).alloc (Nat.le_refl _) _).alloc (by simp) _
  have hz1 : w1.heap.size = w.heap.size + 2 := by rw [hw1]; simp
  have V0 : Hid (VarAt w1 w.heap.size 26 [.slice none 0 0]) := by
    rw [hw1]
    exact Lib.hid ((VarAt.new w 26 [.slice none 0 0]).kept ((Below.refl _ _).alloc (Nat.le_refl _) _))
  have W0 : Hid (VarAt w1 (w.heap.size + 1) 26 [.slice none 0 0]) := by
    rw [hw1]
    have := VarAt.new (w.alloc (.cells #[.slice none 0 0] 26)) 26 [.slice none 0 0]
    simp only [World.size_alloc] at this
    exact Lib.hid this
  have HC : Hid (CodeAt w1 w1.heap.size ca bs) := by
    obtain ⟨c1, c2, c3, c4⟩ := hc
    exact Lib.hid ⟨c1.kept hb, c2, c3, fun h0 cb co e => by have := c4 h0 cb co e; omega⟩
  clear hc
  go_enter Tryz.func18, Tryz.ntmps18
  go_wp2_with fail
  rw [← hw1]
  clear hw1
  refine (l00From_any ca ccap bs _ HC.out).mono ?_
  rintro e w2 ⟨rfl, h2, s2, hz2⟩
  rw [hz1] at s2 hz2 ⊢
  have HS := Lib.hid s2
  replace V0 := Lib.hid (V0.out.kept h2)
  replace W0 := Lib.hid (W0.out.kept h2)
  replace hb := hb.trans (h2.mono hb.size)
  clear h2 s2 HC hz1
  go_wp2_with fail
  refine (l26DrawT_any _ _ _ _ HS.out (by omega) (by omega)).mono ?_
  rintro e w3 ⟨a, cap, ms, rfl, ho, hl, hf, s3, g3⟩
  rw [hz2] at ho
  have SA := Lib.hid (own_slice Mem.enc_len ho rfl)
  have HBA := Lib.hid (own_block' ho)
  have HNA := Lib.hid (own_nilc ho rfl)
  replace HS := Lib.hid s3
  replace V0 := Lib.hid (V0.out.grown g3 (by simp))
  replace W0 := Lib.hid (W0.out.grown g3 (by simp))
  replace hb := hb.trans (below_row g3 (by omega) (by omega))
  have hz3 := g3.size
  clear ho hf s3 g3
  have hx : Below w3.heap.size w3 (w3.alloc (.cells #[.slice a ms.length cap] 26)) := (Below.refl _ _).alloc (Nat.le_refl _) _
  have V5 := Lib.hid (VarAt.new w3 26 [.slice a ms.length cap])
  replace HS := Lib.hid (HS.out.kept hx)
  replace SA := Lib.hid (SA.out.kept hx)
  replace V0 := Lib.hid (V0.out.kept hx)
  replace W0 := Lib.hid (W0.out.kept hx)
  replace hb := hb.trans (hx.mono hb.size)
  clear hx
  generalize hB : w3.heap.size = B1 at *
  obtain ⟨w4, hw4⟩ : ∃ w4, w3.alloc (.cells #[.slice a ms.length cap] 26) = w4 := ⟨_, rfl⟩
  rw [hw4] at V5 HS hb SA V0 W0
  have hz4 := V5.out.lt
  have c5 := V5.out.cell (i := 0) rfl
  have cA := cell_alloc c5 (.cells #[] 53)
  have hnews : ∀ ad, a = some ad → ∀ j u, (ms.flatMap Mem.enc)[j]? = some u → (w4.alloc (.cells #[] 53)).cell? (ad.add j) = some u := by
    rintro ad rfl j u hj
    rcases SA.out with rfl | ⟨b, off, hab, hcs⟩
    · simp at hj
    · simp only [Option.some.injEq] at hab
      subst hab
      exact cell_alloc (cellsAt_row Mem.enc_len (by decide) hcs j u hj) _
  have HO := Lib.hid (World.ownsRow_made (base := w4.heap.size) (e := 53) (size := 2) w4 #[] 0 (Nat.le_refl _) (by unfold maxLen; omega) rfl)
  have HFL : Hid ((ms.flatMap Mem.enc).length = ms.length * 2) := Lib.hid (flatMap_len Mem.enc_len ms)
  have HN := Lib.hid hnews
  have HNIL : Hid (a = none → ms.length = 0 ∧ cap = 0) := Lib.hid (fun h => ⟨by rw [(HNA.out h).1]; rfl, (HNA.out h).2⟩)
  clear hnews
  go_wp2_with (at_builtin; go_must (refine wpList_append_ct rfl (.tmp 11) (.tmp 13) 24 rfl w4.heap.size 53 i0 _ 2 24 Tryz.underlying24 hi0 hz0 hz1' hz2' rfl (by decide) _ 0 [] rfl HO.out a ms.length cap (ms.flatMap Mem.enc) rfl HNIL.out HFL.out HN.out (mem_oneCellD ms) ?c1 ?c2 ?c3 ?_))
  case c1 => unfold maxLen; omega
  case c2 => omega
  case c3 => simp
  intro v' w5 hown5 hgr
  obtain ⟨a2, cap2, hv⟩ := own_shape hown5
  rw [hv] at hown5
  rw [hv]
  have hd : Below w4.heap.size w4 w5 := below_grown ((Below.refl w4.heap.size w4).alloc (Nat.le_refl _) (.cells #[] 53)) (by simp) hgr (Nat.le_refl _)
  clear c5 cA HN HO HFL hgr hv hw4 hB
  replace HO := Lib.hid (own_mono hown5 (base' := B1 + 1) (by omega))
  replace HS := Lib.hid (HS.out.kept hd)
  replace SA := Lib.hid (SA.out.kept hd)
  replace V0 := Lib.hid (V0.out.kept hd)
  replace W0 := Lib.hid (W0.out.kept hd)
  replace V5 := Lib.hid (V5.out.kept hd)
  replace hb := hb.trans (hd.mono hb.size)
  have hz5 := hd.size
  clear hd hown5
  have hx : Below w5.heap.size w5 (w5.alloc (.cells #[.slice a2 ms.length cap2] 26)) := (Below.refl _ _).alloc (Nat.le_refl _) _
  have HBB := Lib.hid (own_block' HO.out)
  have V6 := Lib.hid (VarAt.new w5 26 [.slice a2 ms.length cap2])
  replace HS := Lib.hid (HS.out.kept hx)
  replace SA := Lib.hid (SA.out.kept hx)
  replace V0 := Lib.hid (V0.out.kept hx)
  replace W0 := Lib.hid (W0.out.kept hx)
  replace V5 := Lib.hid (V5.out.kept hx)
  replace HO := Lib.hid (own_below HO.out hx)
  replace hb := hb.trans (hx.mono hb.size)
  clear hx
  generalize hB6 : w5.heap.size = B6 at *
  obtain ⟨wr, hwr⟩ : ∃ wr, w5.alloc (.cells #[.slice a2 ms.length cap2] 26) = wr := ⟨_, rfl⟩
  rw [hwr] at V5 V6 HS hb SA V0 W0 HO
  have c6 := V6.out.cell (i := 0) rfl
  have hz6 := V6.out.lt
  by_cases h0 : 0 < ms.length
  · have h0' : (0 : Int) < (ms.length : Int) := by omega
    go_wp2_with fail
    clear hwr hB6 c6
    refine (one_any 2 _ _ _ wr HS.out (by omega)).mono ?_
    rintro e w7 ⟨y, rfl, s7, g7⟩
    replace HS := Lib.hid s7
    replace V0 := Lib.hid (V0.out.grown g7 (by simp))
    replace W0 := Lib.hid (W0.out.grown g7 (by simp))
    replace V5 := Lib.hid (V5.out.grown g7 (by simp; omega))
    replace V6 := Lib.hid (V6.out.grown g7 (by simp; omega))
    replace SA := Lib.hid (SA.out.grown g7 (fun x hx => by have := HBA.out x hx; simp; omega))
    replace HO := Lib.hid (HO.out.kept g7 (.inr (fun e => by have := (HO.out.lt _ e).1; omega)))
    replace hb := hb.trans (below_row g7 (by omega) hb.size)
    have hz7 := g7.size
    clear s7 g7 h0'
    obtain ⟨g, rfl⟩ : ∃ g, a2 = some ⟨g, 0, none⟩ := by
      rcases HO.out.2 with ⟨h1, h2⟩ | ⟨g, c, _, h1, _⟩
      · omega
      · simp only [Value.slice.injEq] at h1
        exact ⟨g, h1.1⟩
    have hgl := HBB.out _ rfl
    simp only at hgl
    cases y with
    | false =>
      go_upto_region 6 with fail
      have SB := Lib.hid (own_slice Mem.enc_len HO.out rfl)
      clear HO HS
      generalize w7 = wr at *
      have c5 := V5.out.cell (i := 0) rfl
      have c6 := V6.out.cell (i := 0) rfl
      have d0 := V0.out.cell (i := 0) rfl
      have f0 := V0.out.free 0
      have u0 := W0.out.cell (i := 0) rfl
      have v0 := W0.out.free 0
      obtain ⟨o7, g7⟩ := V0.out.set 0 (.slice a ms.length cap)
      obtain ⟨o8, g8⟩ := (W0.out.grown g7 (by simp)).set 0 (.slice (some ⟨g, 0, none⟩) ms.length cap2)
      have e0 := (o7.grown g8 (by simp)).cell (i := 0) (v := .slice a ms.length cap) rfl
      have e1 := o8.cell (i := 0) (v := .slice (some ⟨g, 0, none⟩) ms.length cap2) rfl
      replace SA := Lib.hid ((SA.out.grown g7 (fun x hx => by have := HBA.out x hx; simp; omega)).grown g8 (fun x hx => by have := HBA.out x hx; simp; omega))
      replace SB := Lib.hid ((SB.out.grown g7 (fun x hx => by have := HBB.out x hx; simp; omega)).grown g8 (fun x hx => by have := HBB.out x hx; simp; omega))
      replace hb := (hb.trans (below_row g7 (Nat.le_refl _) hb.size)).trans (below_row g8 (by omega) (by have := hb.size; have := g7.size; omega))
      clear o7 o8 g7 g8
      have hd := (Below.refl ((wr.setCell ⟨w.heap.size, 0, none⟩ (.slice a ms.length cap)).setCell ⟨w.heap.size + 1, 0, none⟩ (.slice (some ⟨g, 0, none⟩) ms.length cap2)).heap.size ((wr.setCell ⟨w.heap.size, 0, none⟩ (.slice a ms.length cap)).setCell ⟨w.heap.size + 1, 0, none⟩ (.slice (some ⟨g, 0, none⟩) ms.length cap2))).drew
      replace SA := Lib.hid (SA.out.kept hd)
      replace SB := Lib.hid (SB.out.kept hd)
      replace hb := hb.trans (hd.mono hb.size)
      clear hd
      go_region
      all_goals
        go_wp2
        refine bodyPost_ret (v := .tuple #[.agg #[.slice a ms.length cap], .agg #[.slice (some ⟨g, 0, none⟩) ms.length cap2]]) (by simp [results, Tryz.results18, go_sem, e0, e1]) rfl ?_
        exact ⟨a, cap, ms, (some ⟨g, 0, none⟩), cap2, ms, by first | rfl | rw [HYL.out], SA.out, SB.out, by omega, by first | omega | (rw [HYL.out]; omega), hb⟩
    | true =>
      go_upto_region 5 with fail
      have c6 := V6.out.cell (i := 0) rfl
      have p1 := own_cells Mem.enc_len HO.out rfl h0 (j := 1) (v := .int .i64 ms[0].rating) rfl
      have q1 := World.ownsRow.frozenAt HO.out 1
      simp only [Nat.zero_mul, Nat.zero_add] at p1
      generalize hr0 : ms[0].rating = rt at p1
      clear hr0
      have hl0 : (0 : Int) ≥ 0 := by omega
      have hd : Below w7.heap.size w7 w7.drew := (Below.refl _ _).drew
      have hszd : w7.drew.heap.size = w7.heap.size := rfl
      replace HS := Lib.hid (HS.out.kept hd)
      replace V0 := Lib.hid (V0.out.kept hd)
      replace W0 := Lib.hid (W0.out.kept hd)
      replace V5 := Lib.hid (V5.out.kept hd)
      replace V6 := Lib.hid (V6.out.kept hd)
      replace SA := Lib.hid (SA.out.kept hd)
      replace HO := Lib.hid (own_below HO.out hd)
      replace hb := hb.trans (hd.mono hb.size)
      clear hd
      go_region_law
        ((go_simp; go_at_call 49; refine (pick_any 2 _ _ _ _ HS.out (by omega)).mono ?_; rintro e w8 ⟨x, _, rfl, s8, g8⟩; replace V0 := Lib.hid (V0.out.grown g8 (by simp)); replace W0 := Lib.hid (W0.out.grown g8 (by simp)); replace V5 := Lib.hid (V5.out.grown g8 (by simp; omega)); replace V6 := Lib.hid (V6.out.grown g8 (by simp; omega)); replace SA := Lib.hid (SA.out.grown g8 (fun x hx => by have := HBA.out x hx; simp; omega)); replace HO := Lib.hid (HO.out.kept g8 (.inr (fun e => by have := (HO.out.lt _ e).1; omega))); replace hb := hb.trans (below_row g8 (by omega) hb.size); have hz8 := g8.size; replace c6 := V6.out.cell (i := 0) rfl; have p2 := g8.cell (show w7.drew.cell? ⟨g, 1, none⟩ = some (.int .i64 rt) from p1) (by simp; omega); clear p1; replace q1 := World.ownsRow.frozenAt HO.out 1; clear s8 g8))
      all_goals
        generalize IntKind.i64.wrap (rt + x) = rx at *
        obtain ⟨o9, g9⟩ := World.ownsRow.stored HO.out 1 (.int .i64 rx)
        have e9 : (ms.flatMap Mem.enc).set 1 (.int .i64 rx) = (ms.set 0 ⟨ms[0].name, rx⟩).flatMap Mem.enc := by
          have := flatMap_set Mem.enc_len ms h0 (j := 1) (by decide) (.int .i64 rx) ⟨ms[0].name, rx⟩ rfl
          rwa [Nat.zero_mul, Nat.zero_add] at this
        have HYL : Hid ((ms.set 0 ⟨ms[0].name, rx⟩).length = ms.length) := Lib.hid (List.length_set ..)
        have SB := Lib.hid (own_slice Mem.enc_len (own_as o9 e9) HYL.out.symm)
        replace V0 := Lib.hid (V0.out.grown g9 (by simp; omega))
        replace W0 := Lib.hid (W0.out.grown g9 (by simp; omega))
        replace V5 := Lib.hid (V5.out.grown g9 (by simp; omega))
        replace V6 := Lib.hid (V6.out.grown g9 (by simp; omega))
        replace SA := Lib.hid (SA.out.grown g9 (fun x hx => by have := HBA.out x hx; simp; omega))
        replace hb := hb.trans (below_row g9 (by omega) hb.size)
        clear o9 g9 e9 HO HS c6 p2 q1
        generalize hwx : w8.setCell ⟨g, 1, none⟩ (.int .i64 rx) = wr at *
        clear hwx
        generalize hys : ms.set 0 ⟨ms[0].name, rx⟩ = ys at *
        clear hys
        go_upto_region 6 with fail
        have c5 := V5.out.cell (i := 0) rfl
        have c6 := V6.out.cell (i := 0) rfl
        have d0 := V0.out.cell (i := 0) rfl
        have f0 := V0.out.free 0
        have u0 := W0.out.cell (i := 0) rfl
        have v0 := W0.out.free 0
        obtain ⟨o7, g7⟩ := V0.out.set 0 (.slice a ms.length cap)
        obtain ⟨o8, g8⟩ := (W0.out.grown g7 (by simp)).set 0 (.slice (some ⟨g, 0, none⟩) ms.length cap2)
        have e0 := (o7.grown g8 (by simp)).cell (i := 0) (v := .slice a ms.length cap) rfl
        have e1 := o8.cell (i := 0) (v := .slice (some ⟨g, 0, none⟩) ms.length cap2) rfl
        replace SA := Lib.hid ((SA.out.grown g7 (fun x hx => by have := HBA.out x hx; simp; omega)).grown g8 (fun x hx => by have := HBA.out x hx; simp; omega))
        replace SB := Lib.hid ((SB.out.grown g7 (fun x hx => by have := HBB.out x hx; simp; omega)).grown g8 (fun x hx => by have := HBB.out x hx; simp; omega))
        replace hb := (hb.trans (below_row g7 (Nat.le_refl _) hb.size)).trans (below_row g8 (by omega) (by have := hb.size; have := g7.size; omega))
        clear o7 o8 g7 g8
        have hd := (Below.refl ((wr.setCell ⟨w.heap.size, 0, none⟩ (.slice a ms.length cap)).setCell ⟨w.heap.size + 1, 0, none⟩ (.slice (some ⟨g, 0, none⟩) ms.length cap2)).heap.size ((wr.setCell ⟨w.heap.size, 0, none⟩ (.slice a ms.length cap)).setCell ⟨w.heap.size + 1, 0, none⟩ (.slice (some ⟨g, 0, none⟩) ms.length cap2))).drew
        replace SA := Lib.hid (SA.out.kept hd)
        replace SB := Lib.hid (SB.out.kept hd)
        replace hb := hb.trans (hd.mono hb.size)
        clear hd
        go_region
        all_goals
          go_wp2
          refine bodyPost_ret (v := .tuple #[.agg #[.slice a ms.length cap], .agg #[.slice (some ⟨g, 0, none⟩) ms.length cap2]]) (by simp [results, Tryz.results18, go_sem, e0, e1]) rfl ?_
          exact ⟨a, cap, ms, (some ⟨g, 0, none⟩), cap2, ys, by first | rfl | rw [HYL.out], SA.out, SB.out, by omega, by first | omega | (rw [HYL.out]; omega), hb⟩
  · have h0' : ¬ (0 : Int) < (ms.length : Int) := by omega
    go_upto_region 6 with fail
    clear hwr hB6 c6
    have SB := Lib.hid (own_slice Mem.enc_len HO.out rfl)
    clear HO HS
    have c5 := V5.out.cell (i := 0) rfl
    have c6 := V6.out.cell (i := 0) rfl
    have d0 := V0.out.cell (i := 0) rfl
    have f0 := V0.out.free 0
    have u0 := W0.out.cell (i := 0) rfl
    have v0 := W0.out.free 0
    obtain ⟨o7, g7⟩ := V0.out.set 0 (.slice a ms.length cap)
    obtain ⟨o8, g8⟩ := (W0.out.grown g7 (by simp)).set 0 (.slice a2 ms.length cap2)
    have e0 := (o7.grown g8 (by simp)).cell (i := 0) (v := .slice a ms.length cap) rfl
    have e1 := o8.cell (i := 0) (v := .slice a2 ms.length cap2) rfl
    replace SA := Lib.hid ((SA.out.grown g7 (fun x hx => by have := HBA.out x hx; simp; omega)).grown g8 (fun x hx => by have := HBA.out x hx; simp; omega))
    replace SB := Lib.hid ((SB.out.grown g7 (fun x hx => by have := HBB.out x hx; simp; omega)).grown g8 (fun x hx => by have := HBB.out x hx; simp; omega))
    replace hb := (hb.trans (below_row g7 (Nat.le_refl _) hb.size)).trans (below_row g8 (by omega) (by have := hb.size; have := g7.size; omega))
    clear o7 o8 g7 g8
    have hd := (Below.refl ((wr.setCell ⟨w.heap.size, 0, none⟩ (.slice a ms.length cap)).setCell ⟨w.heap.size + 1, 0, none⟩ (.slice a2 ms.length cap2)).heap.size ((wr.setCell ⟨w.heap.size, 0, none⟩ (.slice a ms.length cap)).setCell ⟨w.heap.size + 1, 0, none⟩ (.slice a2 ms.length cap2))).drew
    replace SA := Lib.hid (SA.out.kept hd)
    replace SB := Lib.hid (SB.out.kept hd)
    replace hb := hb.trans (hd.mono hb.size)
    clear hd
    go_region
    all_goals
      go_wp2
      refine bodyPost_ret (v := .tuple #[.agg #[.slice a ms.length cap], .agg #[.slice a2 ms.length cap2]]) (by simp [results, Tryz.results18, go_sem, e0, e1]) rfl ?_
      exact ⟨a, cap, ms, a2, cap2, ms, by first | rfl | rw [HYL.out], SA.out, SB.out, by omega, by first | omega | (rw [HYL.out]; omega), hb⟩
end Go.Proofs.YtlbnjdgfggiifaaGreatDoor
