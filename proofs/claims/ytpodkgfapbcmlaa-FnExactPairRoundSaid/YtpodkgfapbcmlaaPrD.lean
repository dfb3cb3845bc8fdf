/- Contracts: the pairs of a row of names (reference). -/
import Derived.Test.YtpodkgfapbcmlaaPrC
import Derived.Test.YtpodkgfapbcmlaaBoxC
namespace Go.Proofs.Ytpodkgfapbcmlaa
open Go.ChangeShapes Go.WideShapes Go.ChangeAt Go.RowKit Go.Sort

/-- pairs in new memory, and whether all have one -/
def PairPost (w : World) (p : List Pai × Bool) (en : Ending) (w' : World) : Prop :=
  ∃ (a : Option Addr) (cap : Nat), en = .returned (.tuple #[.slice a p.1.length cap, .bool p.2]) ∧ (p.2 = true → a ≠ none) ∧ w'.ownsRow w.heap.size 82 2 (.slice a p.1.length cap) p.1.length (p.1.flatMap Pai.enc) ∧ Below w.heap.size w w'
theorem own_at {w : World} {B : Nat} {e : TypeId} {sz n cap : Nat} {a : Option Addr} {L : List Value} (h : w.ownsRow B e sz (.slice a n cap) n L) (ha : a ≠ none) : ∃ g, a = some ⟨g, 0, none⟩ := by
  rcases h.2 with ⟨hv, _⟩ | ⟨g, _, _, hv, _⟩
  · simp only [Value.slice.injEq] at hv
    exact absurd hv.1 ha
  · simp only [Value.slice.injEq] at hv
    exact ⟨g, hv.1⟩
theorem pai_one (p : Pai) : ∀ u ∈ Pai.enc p, u.oneCell' = true := by
  intro u hu
  simp only [Pai.enc, List.mem_cons, List.not_mem_nil, or_false] at hu
  rcases hu with rfl | rfl <;> rfl
theorem pai_ones (xs : List Pai) : ∀ u ∈ xs.flatMap Pai.enc, u.oneCell' = true := by
  intro u hu
  obtain ⟨m, _, hm⟩ := List.mem_flatMap.1 hu
  exact pai_one m u hm
theorem pai_new (w : World) (p : Pai) (e : TypeId) (base : Nat) (hb : base ≤ w.heap.size) : (w.alloc (.cells #[.string p.a, .string p.b] e)).ownsRow base e 2 (.slice (some ⟨w.heap.size, 0, none⟩) 1 1) 1 (Pai.enc p) :=
  ⟨rfl, .inr ⟨w.heap.size, 1, #[.string p.a, .string p.b], rfl, hb, heap_alloc_new w _, Nat.le_refl _, by unfold maxLen; omega, rfl, rfl⟩⟩

theorem step_fresh {P : Program} {c : Prop} [Decidable c] {o : Oper} {a : Act} {X : World} {cs : Array Value} {t : TypeId} {K : Act → World → Prop} {Q : Exit → Act → World → Prop} {E : Prop} (sz : Nat) (hs : cs.size = 1 * sz)
    (h : ∀ wz, Below X.heap.size X wz → wz.ownsRow X.heap.size t sz (.slice (some ⟨X.heap.size, 0, none⟩) 1 1) 1 cs.toList → if c then o.wp P a wz K Q else E) : if c then o.wp P a (X.alloc (.cells cs t)) K Q else E :=
  h _ ((Below.refl _ _).alloc (Nat.le_refl _) _) ⟨Array.length_toList.trans hs, .inr ⟨X.heap.size, 1, cs, rfl, Nat.le_refl _, heap_alloc_new X _, Nat.le_refl _, by unfold maxLen; omega, hs, List.take_of_length_le (by rw [Array.length_toList, hs]; exact Nat.le_refl _)⟩⟩
theorem step_fresh_drew {P : Program} {c : Prop} [Decidable c] {o : Oper} {a : Act} {X : World} {cs : Array Value} {t : TypeId} {K : Act → World → Prop} {Q : Exit → Act → World → Prop} {E : Prop} (sz : Nat) (hs : cs.size = 1 * sz)
    (h : ∀ wz, Below X.heap.size X wz → wz.ownsRow X.heap.size t sz (.slice (some ⟨X.heap.size, 0, none⟩) 1 1) 1 cs.toList → if c then o.wp P a wz K Q else E) : if c then o.wp P a (X.drew.alloc (.cells cs t)) K Q else E :=
  step_fresh (X := X.drew) sz hs fun wz hb ho => h wz (((Below.refl X.heap.size X).drew).trans hb) ho
theorem step_append_own {P : Program} {w : World} {ops : Array Oper} {o : Oper} {a : Act} {K : Act → World → Prop} {Q : Exit → Act → World → Prop} {E : Prop} (hgd : o.guard = none) (s x : Operand) (t : TypeId)
    (ho : o.op = .call { callee := .builtin .append, args := #[s, x], argTypes := #[t, t] })
    (base : Nat) (e : TypeId) (i : TypeInfo) (z : Value) (size bytes : Nat) (ht : P.underlying t = some (.slice e)) (hi : P.info? e = some i) (hz : i.zero = some z)
    (hsize : i.size = size) (hby : i.bytes = bytes) (hzs : z.cells.size = size) (hsz : 0 < size)
    (v : Value) (n : Nat) (xs : List Value) (hs : a.eval s = v) (hown : w.ownsRow base e size v n xs)
    (ad : Addr) (m c : Nat) (news : List Value) (hx : a.eval x = .slice (some ad) m c) (hl : news.length = m * size) (hnews : ∀ j u, news[j]? = some u → w.cell? (ad.add j) = some u) (h1 : ∀ u ∈ news, u.oneCell' = true)
    (h63 : n + m ≤ maxLen) (hbytes : (n + m) * bytes ≤ 140737488355328) (hbase : base ≤ w.heap.size)
    (h : ∀ v' w', w'.ownsRow base e size v' (n + m) (xs ++ news) → w.grownBy w' v.ownBlock → (v' = .slice none 0 0 ↔ v = .slice none 0 0 ∧ m = 0) → K (a.put o.dst v') w') :
    if Region.wanted o (yielded ops a.tmps) = true then Oper.wp P o a w K Q else E := by
  have hw : Region.wanted o (yielded ops a.tmps) = true := by simp [Region.wanted, hgd]
  rw [if_pos hw]
  exact wp_append_own w s x t ho base e i z size bytes ht hi hz hsize hby hzs hsz v n xs hs hown ad m c news hx hl hnews h1 h63 hbytes hbase h

set_option maxRecDepth 100000 in
set_option maxHeartbeats 4000000 in
theorem l26Pairs_any (rs : List Res) (ra : Option Addr) (rcap : Nat) (hlr : rs.length ≤ 1048576) (f : Nat) : ∀ (xs : List ByteArray) (b off cap : Nat) (w : World), f ≤ 13 → xs.length ≤ 2 * f + 1 → CellsAt w 1 Nm.enc b off xs → xs.length ≤ cap → cap ≤ maxLen → SliceAt w 4 Res.enc ra rs →
    Calls Try.prog 96 #[.slice (some ⟨b, off, none⟩) xs.length cap, .slice ra rs.length rcap] w (PairPost w (pairsN rs f xs)) := by
  induction f using Nat.strongRecOn with
  | ind f IH =>
    intro xs b off cap w hf hn hc hcap hcm hr
    obtain ⟨i0, hi0, hz0, hz1, hz2⟩ := info_parts infoPairing
    have HRS := Lib.hid hr; clear hr
    have HC := Lib.hid hc; clear hc
    by_cases h0 : xs.length = 0
    · obtain rfl := List.eq_nil_of_length_eq_zero h0
      have HN := Lib.hid (pairsN_nil rs f)
      have HO := Lib.hid (World.ownsRow_made (base := w.heap.size) (e := 82) (size := 2) w #[] 0 (Nat.le_refl _) (by unfold maxLen; omega) rfl)
      have hb : Below w.heap.size w (w.alloc (.cells #[] 82)) := (Below.refl _ _).alloc (Nat.le_refl _) _
      go_enter Try.func96, Try.ntmps96
      go_wp2
      go_ret2
      rw [HN.out]
      exact ⟨_, _, rfl, by simp, HO.out, hb⟩
    · have h0' : 0 < xs.length := by omega
      have HT0 := Lib.hid (pairsN_try (rs := rs) h0' hn)
      clear h0
      unfold maxLen at hcm
      have hzz : ((xs.length : Int) == 0) = false := by simpa using (by omega : ¬ (xs.length : Int) = 0)
      go_enter Try.func96, Try.ntmps96
      go_wp2
      clear hzz
      go_loopw [6] (fun iv wr => ∃ k : Nat, 0 < k ∧ k ≤ xs.length ∧ iv = .int .i64 k ∧ Hid (tryFrom rs (pairsN rs (f - 1)) xs (xs.length - k) k = pairsN rs f xs) ∧ Below w.heap.size w wr) (fun iv _ => xs.length - (intOf iv).toNat)
      case atStart => exact ⟨1, by omega, h0', by first | rfl | go_num, Lib.hid HT0.out.symm, Below.refl _ _⟩
      case round =>
        obtain ⟨k, hk0, hk, rfl, HT, hb⟩ := hrel
        by_cases hlt : k < xs.length
        · have cs := cellsAt_kept HC.out hb
          have q0 := nm_at cs h0'
          have qk := nm_at cs hlt
          simp only [Nat.add_zero] at q0
          have CS := Lib.hid cs
          clear cs
          have hp0 := fun (wx : World) (h : SliceAt wx 4 Res.enc ra rs) => l26Played_any rs (xs[0]'h0') xs[k] ra rcap wx h (by omega)
          cases hp : played rs (xs[0]'h0') xs[k] with
          | true =>
            rw [hp] at hp0
            have HP := Lib.hid hp0
            have HT2 := Lib.hid ((tryFrom_played (rec := pairsN rs (f - 1)) hlt hp).symm.trans HT.out)
            clear hp0 hp
            go_wp2
            go_quiet ((go_at_call 97; exact quiet_of_eq (HP.out _ (((HRS.out.kept hb).drew ⟨_, rfl⟩)))))
            have hd : Below wr.heap.size wr (wr.drewN nq) := (Drew.drewN (Drew.refl _) nq).below _
            have cs := cellsAt_kept CS.out hd
            have HB2 := Lib.hid (hb.trans (hd.mono hb.size))
            clear hd
            generalize wr.drewN nq = wa at *
            go_wp2
            go_roundw
            case rel => exact ⟨k + 1, by omega, by omega, by go_num, HT2, HB2.out⟩
            case measure => simp [intOf]; omega
          | false =>
            rw [hp] at hp0
            have HP := Lib.hid hp0
            have HPF := Lib.hid hp
            clear hp0 hp
            go_wp2
            go_quiet ((go_at_call 97; exact quiet_of_eq (HP.out _ (((HRS.out.kept hb).drew ⟨_, rfl⟩)))))
            have hd : Below wr.heap.size wr (wr.drewN nq) := (Drew.drewN (Drew.refl _) nq).below _
            have cs := cellsAt_kept CS.out hd
            have HB2 := Lib.hid (hb.trans (hd.mono hb.size))
            clear hd
            generalize wr.drewN nq = wa at *
            have CS2 := Lib.hid cs
            clear cs q0 qk CS
            go_wp2_with fail
            refine (l26Without_any xs k b off cap wa CS2.out hk0 hlt hcap hcm (by omega)).mono ?_
            rintro e w2 ⟨g2, cap2, rfl, cs2, h1, h2, hd⟩
            have CW := Lib.hid cs2
            have HB3 := Lib.hid (HB2.out.trans (hd.mono HB2.out.size))
            have CS3 := Lib.hid (cellsAt_kept CS2.out hd)
            clear hd cs2 CS2
            go_wp2_with fail
            refine (IH (f - 1) (by omega) (without xs k) g2 0 cap2 _ (by omega) (by rw [without_len hlt hk0]; omega) CW.out h1 h2 (HRS.out.kept HB3.out)).mono ?_
            clear CW h1 h2
            rintro e w3 ⟨a3, cap3, rfl, hne, ho, hd⟩
            have HY := Lib.hid (fun h => tryFrom_yes (rec := pairsN rs (f - 1)) hlt HPF.out h)
            have HX := Lib.hid (fun h => tryFrom_no (rec := pairsN rs (f - 1)) hlt HPF.out h)
            have hpl0 := pairsN_len rs (f - 1) (without xs k) (by rw [without_len hlt hk0]; omega)
            obtain ⟨P, hP⟩ : ∃ P, pairsN rs (f - 1) (without xs k) = P := ⟨_, rfl⟩
            rw [hP] at hne ho HY HX hpl0 ⊢
            have HPL := Lib.hid (show P.1.length ≤ 13 by omega)
            clear hpl0
            clear hP
            obtain ⟨pl, pb⟩ := P
            cases pb with
            | false =>
              have HX2 := Lib.hid ((HX.out rfl).symm.trans HT.out)
              clear HX HY ho hne
              have HB4 := Lib.hid (HB3.out.trans (hd.mono HB3.out.size))
              clear hd
              go_wp2
              go_roundw
              case rel => exact ⟨k + 1, by omega, by omega, by go_num, HX2, HB4.out⟩
              case measure => simp [intOf]; omega
            | true =>
              obtain ⟨g3, rfl⟩ := own_at ho (hne rfl)
              have HE := Lib.hid ((HY.out rfl).symm.trans HT.out)
              clear HX HY hne HT
              have cs4 := cellsAt_kept CS3.out hd
              have q0 := nm_at cs4 h0'
              have qk := nm_at cs4 hlt
              simp only [Nat.add_zero] at q0
              have HB4 := Lib.hid (HB3.out.trans (hd.mono HB3.out.size))
              have HO := Lib.hid ho
              clear hd cs4 CS3 ho
              go_wp2_with fail
              have HN := Lib.hid (own_news (L1 := pl.flatMap Pai.enc) (L2 := []) (own_as HO.out (by simp)))
              have hpl := HPL.out
              have hbw : b < w3.heap.size := block_lt q0
              obtain ⟨k_q0, k_qk⟩ := And.intro q0 qk
              have hk : Below w3.heap.size w3 w3 := Below.refl _ _
              go_region_held3 (fun w' => w'.cell? ⟨b, off, none⟩ = some (.string (xs[0]'h0')) ∧ w'.cell? ⟨b, off + k, none⟩ = some (.string xs[k]))
                (first | exact ⟨k_q0, k_qk⟩ | exact ⟨cell_alloc k_q0 _, cell_alloc k_qk _⟩)
                (((first | refine step_fresh 2 rfl ?_ | refine step_fresh_drew 2 rfl ?_); intro wz hxz how; refine step_append_own ?_ (.tmp 45) (.tmp 46) 77 ?_ w3.heap.size 82 i0 (.agg #[.string ⟨#[]⟩, .string ⟨#[]⟩]) 2 32 Try.underlying77 hi0 hz0 hz1 hz2 rfl (by decide) (.slice (some ⟨w3.heap.size, 0, none⟩) 1 1) 1 (Pai.enc ⟨xs[0]'h0', xs[k]⟩) ?_ how ⟨g3, 0, none⟩ pl.length cap3 (pl.flatMap Pai.enc) ?_ (flatMap_len Pai.enc_len pl) (fun j u hj => cell_kept (HN.out j u hj) hxz) (pai_ones pl) ?_ ?_ hxz.size ?_; (all_goals (first | rfl | (unfold maxLen; omega) | omega | skip)); intro v5 w5 ho5 hg5 hn5; obtain ⟨g5, cap5, rfl, hB5, hlt5⟩ := ho5.form (by omega); replace k_q0 := hg5.cell (cell_kept k_q0 hxz) (by simp [Value.ownBlock]; omega); replace k_qk := hg5.cell (cell_kept k_qk hxz) (by simp [Value.ownBlock]; omega); replace hk := below_grown hxz hxz.size hg5 (Nat.le_refl _); have H5 := Lib.hid (own_as ho5 (L' := (⟨xs[0]'h0', xs[k]⟩ :: pl : List Pai).flatMap Pai.enc) (by simp)); clear ho5 hg5 hn5 hxz how))
              all_goals
                go_wp2
                go_ret2
                rw [← HE.out, Nat.add_comm 1 pl.length]
                have h5 := own_mono H5.out HB4.out.size
                rw [Nat.add_comm 1 pl.length] at h5
                exact ⟨_, _, rfl, by simp, h5, HB4.out.trans (hk.mono HB4.out.size)⟩
        · have HE := Lib.hid ((tryFrom_end (rs := rs) (rec := pairsN rs (f - 1)) hlt).symm.trans HT.out)
          go_wp2
          go_ret2
          rw [← HE.out]
          exact ⟨none, 0, rfl, by simp, by simpa using World.ownsRow_nil _ w.heap.size 82 2, hb⟩
end Go.Proofs.Ytpodkgfapbcmlaa
