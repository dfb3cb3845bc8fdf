/- Contracts: the reference's lists of words: a word is put into a list, lists are made, lists are drawn. Nothing is said of the words but that they are short. -/
import Derived.Test.YtjdcdhhbgijaoaaGreatDoorDbE
import Derived.Test.YtjdcdhhbgijaoaaGreatDoorWoA
import Derived.Test.YtjdcdhhbgijaoaaGreatDoorSplI
import Derived.Laws.AppendOwn
import Derived.Deep.DeepCutAuto
import Derived.Deep.CutBlock
namespace Go.Proofs.YtjdcdhhbgijaoaaGreatDoor
open Go.ChangeShapes Go.WideShapes Go.ChangeAt Go.RowKit Go.Sort

theorem txs_one (xs : List ByteArray) : ∀ u ∈ xs.flatMap Tx.enc, u.oneCell' = true := by
  intro u hu
  obtain ⟨x, _, hx⟩ := List.mem_flatMap.1 hu
  exact tx_one x u hx
theorem own_aside {w w' : World} {base : Nat} {e : TypeId} {sz g n cap g' : Nat} {L : List Value} (h : w.ownsRow base e sz (.slice (some ⟨g, 0, none⟩) n cap) n L) (hg : w.grownBy w' (some g')) (hne : g ≠ g') : w'.ownsRow base e sz (.slice (some ⟨g, 0, none⟩) n cap) n L :=
  World.ownsRow.kept h hg (.inr (by intro e; exact hne (Option.some.inj e)))
theorem txs_len (xs : List ByteArray) : (xs.flatMap Tx.enc).length = xs.length * 1 := by
  induction xs with
  | nil => rfl
  | cons x xs ih => rw [List.flatMap_cons, List.length_append, ih, List.length_cons]; show 1 + _ = _; omega
theorem own_cap {w : World} {base g n cap : Nat} {e : TypeId} {sz : Nat} {L : List Value} (h : w.ownsRow base e sz (.slice (some ⟨g, 0, none⟩) n cap) n L) : n ≤ cap := by
  rcases h.2 with ⟨h0, _⟩ | ⟨g', c, cur, h0, _, _, h3, _⟩
  · simp at h0
  · simp only [Value.slice.injEq] at h0
    rw [h0.2.2]
    exact h3
theorem txs_get (xs : List ByteArray) (j : Nat) : (xs.flatMap Tx.enc)[j]? = xs[j]?.map Value.string := by
  induction xs generalizing j with
  | nil => rfl
  | cons x xs ih =>
    rw [List.flatMap_cons]
    cases j with
    | zero => rfl
    | succ j => exact ih j
theorem own_part {w : World} {base g n cap : Nat} {ws : List ByteArray} (h : w.ownsRow base 9 1 (.slice (some ⟨g, 0, none⟩) n cap) n (ws.flatMap Tx.enc)) (o : Nat) (zs : List ByteArray) (hz : ∀ j, j < zs.length → ws[o + j]? = zs[j]?) : ∀ j u, (zs.flatMap Tx.enc)[j]? = some u → w.cell? ((⟨g, o, none⟩ : Addr).add j) = some u := by
  intro j u hu
  rw [Go.Addr.add_lit]
  refine h.cells rfl (o + j) u ?_ |> fun k => by rwa [Go.Addr.add_lit, Nat.zero_add] at k
  rw [txs_get] at hu ⊢
  have hj : j < zs.length := by
    rcases Nat.lt_or_ge j zs.length with h' | h'
    · exact h'
    · rw [List.getElem?_eq_none h'] at hu
      cases hu
  rw [hz j hj]
  exact hu
set_option maxRecDepth 100000 in
set_option maxHeartbeats 4000000 in
theorem l03Insert_any (ws : List ByteArray) (g m cap base : Nat) (t : ByteArray) (w : World) (ho : w.ownsRow base 9 1 (.slice (some ⟨g, 0, none⟩) m cap) m (ws.flatMap Tx.enc)) (hm : ws.length = m) (hM : m ≤ 1000) (ht : t.size ≤ 20) (hws : ∀ x ∈ ws, x.size ≤ 20) (hbase : base ≤ w.heap.size) :
    Calls Tryz.prog 269 #[.slice (some ⟨g, 0, none⟩) m cap, .string t] w fun e w' => ∃ (g' m' cap' : Nat) (ys : List ByteArray), e = .returned (.slice (some ⟨g', 0, none⟩) m' cap') ∧ ys.length = m' ∧ m' ≤ m + 1 ∧ (∀ x ∈ ys, x.size ≤ 20) ∧ w'.ownsRow base 9 1 (.slice (some ⟨g', 0, none⟩) m' cap') m' (ys.flatMap Tx.enc) ∧ Below w.heap.size w w' := by
  obtain ⟨i0, hi0, hi1, hi2, hi3⟩ := info_parts infoTx
  have hcap := own_cap ho
  have hlt := (ho.lt g rfl).2
  have HO := Lib.hid ho
  have HWS := Lib.hid hws
  clear ho hws
  go_enter Tryz.func269, Tryz.ntmps269
  go_upto_block 0 with fail
  go_cut [5] (fun kv wx => ∃ k : Nat, k ≤ m ∧ kv = .int .i64 k ∧ w = wx)
  case first =>
    go_wp2_with fail
    go_loopw [5] (fun kv wr => ∃ k : Nat, k ≤ m ∧ kv = .int .i64 k ∧ w = wr) (fun kv _ => (intOf kv).toNat)
    case atStart => exact ⟨m, Nat.le_refl _, rfl, rfl⟩
    case round =>
      obtain ⟨k, hk, rfl, hw⟩ := hrel
      subst hw
      by_cases hk0 : 0 < k
      · have hk0I : (0 : Int) < (k : Int) := by omega
        obtain ⟨j, hj⟩ : ∃ j : Nat, (k : Int) - 1 = j := ⟨k - 1, by omega⟩
        have wk : IntKind.i64.wrap ((k : Int) - 1) = (j : Int) := by rw [hj]; exact IntWalk.i64_in _ (by omega)
        have hjm : j < m := by omega
        have hjI : (j : Int) < (m : Int) := by omega
        have c0 := own_at HO.out hm.symm (j := j) (by omega)
        generalize ws[j] = y at *
        cases h1 : Op.bytesLess y.toList t.toList with
        | true =>
          go_wp2_with fail
          go_meet
          exact ⟨k, hk, rfl, rfl⟩
        | false =>
          cases h2 : (y.toList == t.toList) with
          | true =>
            go_wp2_with fail
            go_meet
            exact ⟨k, hk, rfl, rfl⟩
          | false =>
            go_wp2
            go_roundw
            case rel => exact ⟨j, by omega, rfl, by trivial⟩
            case measure => simp [intOf]; omega
      · have hk0I : ¬ (0 : Int) < (k : Int) := by omega
        go_wp2_with fail
        go_meet
        exact ⟨k, hk, rfl, rfl⟩
  case rest =>
    obtain ⟨k, hk, rfl, rfl⟩ := hcut
    go_upto_region 4 with fail
    go_cut [32] (fun v wx => ∃ q : Bool, v = .bool q ∧ w = wx)
    case first =>
      by_cases hk0 : 0 < k
      · have hk0I : (0 : Int) < (k : Int) := by omega
        obtain ⟨j, hj⟩ : ∃ j : Nat, (k : Int) - 1 = j := ⟨k - 1, by omega⟩
        have wk : IntKind.i64.wrap ((k : Int) - 1) = (j : Int) := by rw [hj]; exact IntWalk.i64_in _ (by omega)
        have hjm : j < m := by omega
        have hjI : (j : Int) < (m : Int) := by omega
        have c0 := own_at HO.out hm.symm (j := j) (by omega)
        generalize ws[j] = y at *
        cases hv : (y.toList == t.toList) with
        | true =>
          go_wp2_with fail
          go_meet
          exact ⟨_, rfl, rfl⟩
        | false =>
          go_wp2_with fail
          go_meet
          exact ⟨_, rfl, rfl⟩
      · have hk0I : ¬ (0 : Int) < (k : Int) := by omega
        go_wp2_with fail
        go_meet
        exact ⟨_, rfl, rfl⟩
    case rest =>
      obtain ⟨q, rfl, rfl⟩ := hcut
      cases q with
      | true =>
        go_wp2
        go_ret
        exact ⟨g, m, cap, ws, rfl, hm, by omega, HWS.out, HO.out, Below.refl _ _⟩
      | false =>
        have hkc : (k : Int) ≤ (cap : Int) := by omega
        have hkm : (k : Int) ≤ (m : Int) := by omega
        have hx : Below w.heap.size w (w.alloc (.cells #[] 9)) := (Below.refl _ _).alloc (Nat.le_refl _) _
        have HE : Hid ((w.alloc (.cells #[] 9)).ownsRow w.heap.size 9 1 (.slice (some ⟨w.heap.size, 0, none⟩) 0 0) 0 []) := Lib.hid (own_empty w 9)
        replace HO := Lib.hid (own_below HO.out hx)
        have hb := hx
        clear hx
        have hn1 : ((ws.take k).flatMap Tx.enc).length = k * 1 := by rw [txs_len, List.length_take]; omega
        have HC1 := Lib.hid (own_part HO.out 0 (ws.take k) (fun j hj => by rw [Nat.zero_add, List.getElem?_take_of_lt (by rw [List.length_take] at hj; omega)]))
        go_wp2_with (at_builtin; go_must (refine wpList_append_own _ rfl (.tmp 34) (.tmp 37) 26 rfl w.heap.size 9 i0 _ 1 16 Tryz.underlying26 hi0 hi1 hi2 hi3 rfl (by decide) _ 0 ([]) (by rfl) HE.out ⟨g, 0, none⟩ k cap ((ws.take k).flatMap Tx.enc) (by rfl) hn1 HC1.out (txs_one _) ?c1 ?c2 ?c3 ?_))
        case c1 => unfold maxLen; omega
        case c2 => omega
        case c3 => (first | omega | (simp only [World.size_alloc]; omega))
        intro v7 w7 hown hgr hnil
        obtain ⟨g7, cap7, rfl, _⟩ := own_some hown (fun e => by have h := hnil; rw [e] at h; simp at h)
        replace HO := Lib.hid (own_aside HO.out hgr (by first | omega | (dsimp only; omega)))
        have hz := hb.size
        replace hb := hb.grown hgr hb.size (fun q e => by cases e; exact Nat.le_refl _)
        have HR : Hid (w7.ownsRow w.heap.size 9 1 (.slice (some ⟨g7, 0, none⟩) k cap7) k ((ws.take k).flatMap Tx.enc)) := Lib.hid (by first | exact hown | simpa using hown)
        clear hown hgr hnil HC1 hn1 HE hz
        have hx : Below w7.heap.size w7 (w7.alloc (.cells #[.string t] 9)) := (Below.refl _ _).alloc (Nat.le_refl _) _
        have KN := Lib.hid (new_tx w7 t 9)
        have hg7 := (HR.out.lt g7 rfl).1
        have hz := hb.size
        replace HO := Lib.hid (own_below HO.out hx)
        replace HR := Lib.hid (own_below HR.out hx)
        replace hb := hb.trans (hx.mono hb.size)
        clear hx
        go_wp2_with (at_builtin; go_must (refine wpList_append_own _ rfl (.tmp 39) (.tmp 41) 26 rfl w.heap.size 9 i0 _ 1 16 Tryz.underlying26 hi0 hi1 hi2 hi3 rfl (by decide) _ k ((ws.take k).flatMap Tx.enc) (by rfl) HR.out ⟨w7.heap.size, 0, none⟩ 1 1 (Tx.enc t) (by rfl) rfl KN.out (tx_one _) ?c1 ?c2 ?c3 ?_))
        case c1 => unfold maxLen; omega
        case c2 => omega
        case c3 => (first | omega | (simp only [World.size_alloc]; omega))
        intro v8 w8 hown hgr hnil
        obtain ⟨g8, cap8, rfl, _⟩ := own_some hown (fun e => by have h := hnil; rw [e] at h; simp at h)
        replace HO := Lib.hid (own_aside HO.out hgr (by first | omega | (dsimp only; omega)))
        replace hb := hb.grown hgr hb.size (fun q e => by have := (HR.out.lt q e).1; omega)
        replace HR : Hid (w8.ownsRow w.heap.size 9 1 (.slice (some ⟨g8, 0, none⟩) (k + 1) cap8) (k + 1) ((ws.take k ++ [t]).flatMap Tx.enc)) := Lib.hid (by rw [snoc_flat Tx.enc]; exact hown)
        have hg8 := (HR.out.lt g8 rfl).1
        clear hown hgr hnil KN hg7 hz
        have hz := hb.size
        have HY : Hid (∀ x ∈ ws.take k ++ [t] ++ ws.drop k, x.size ≤ 20) := Lib.hid (fun x hx => by
          simp only [List.mem_append, List.mem_singleton] at hx
          rcases hx with (hx | rfl) | hx
          · exact HWS.out x (List.mem_of_mem_take hx)
          · exact ht
          · exact HWS.out x (List.mem_of_mem_drop hx))
        have hYL : (ws.take k ++ [t] ++ ws.drop k).length = k + 1 + (m - k) := by
          rw [List.length_append, List.length_append, List.length_take, List.length_drop, List.length_singleton]
          omega
        have hn1 : ((ws.drop k).flatMap Tx.enc).length = (m - k) * 1 := by rw [txs_len, List.length_drop]; omega
        by_cases hck : cap = k
        · have hmk : m = k := by omega
          have hd0 : ws.drop k = [] := List.drop_of_length_le (by omega)
          have hc0 : cap - k = 0 := by omega
          have hm0 : m - k = 0 := by omega
          have HC1 : Hid (∀ j u, ([] : List Value)[j]? = some u → w8.cell? ((⟨g, 0, none⟩ : Addr).add j) = some u) := Lib.hid (fun j u h => by simp at h)
          rw [hd0, List.append_nil] at HY hYL
          rw [hm0, Nat.add_zero] at hYL
          clear hn1
          go_wp2_with (at_builtin; go_must (refine wpList_append_own _ rfl (.tmp 43) (.tmp 46) 26 rfl w.heap.size 9 i0 _ 1 16 Tryz.underlying26 hi0 hi1 hi2 hi3 rfl (by decide) _ (k + 1) ((ws.take k ++ [t]).flatMap Tx.enc) (by rfl) HR.out ⟨g, 0, none⟩ 0 0 ([]) (by rfl) rfl HC1.out (fun u hu => by cases hu) ?c1 ?c2 ?c3 ?_))
          case c1 => unfold maxLen; omega
          case c2 => omega
          case c3 => (first | omega | (simp only [World.size_alloc]; omega))
          intro v9 w9 hown hgr hnil
          obtain ⟨g9, cap9, rfl, _⟩ := own_some hown (fun e => by have h := hnil; rw [e] at h; simp at h)
          replace hb := hb.grown hgr hb.size (fun q e => by have := (HR.out.lt q e).1; omega)
          have hF : w9.ownsRow w.heap.size 9 1 (.slice (some ⟨g9, 0, none⟩) (k + 1) cap9) (k + 1) ((ws.take k ++ [t]).flatMap Tx.enc) := by first | exact hown | simpa using hown
          have HF := Lib.hid (own_mono hF hbase)
          clear hF hown hgr hnil HC1 HO HR
          go_wp2
          go_ret
          exact ⟨g9, k + 1, cap9, _, rfl, hYL, by omega, HY.out, HF.out, hb⟩
        · have HC1 := Lib.hid (own_part HO.out k (ws.drop k) (fun j hj => by rw [List.getElem?_drop]))
          go_wp2_with (at_builtin; go_must (refine wpList_append_own _ rfl (.tmp 43) (.tmp 46) 26 rfl w.heap.size 9 i0 _ 1 16 Tryz.underlying26 hi0 hi1 hi2 hi3 rfl (by decide) _ (k + 1) ((ws.take k ++ [t]).flatMap Tx.enc) (by rfl) HR.out ⟨g, k, none⟩ (m - k) (cap - k) ((ws.drop k).flatMap Tx.enc) (by rfl) hn1 HC1.out (txs_one _) ?c1 ?c2 ?c3 ?_))
          case c1 => unfold maxLen; omega
          case c2 => omega
          case c3 => (first | omega | (simp only [World.size_alloc]; omega))
          intro v9 w9 hown hgr hnil
          obtain ⟨g9, cap9, rfl, _⟩ := own_some hown (fun e => by have h := hnil; rw [e] at h; simp at h)
          replace hb := hb.grown hgr hb.size (fun q e => by have := (HR.out.lt q e).1; omega)
          have hF : w9.ownsRow w.heap.size 9 1 (.slice (some ⟨g9, 0, none⟩) (k + 1 + (m - k)) cap9) (k + 1 + (m - k)) ((ws.take k ++ [t] ++ ws.drop k).flatMap Tx.enc) := by first | exact hown | simpa using hown
          have HF := Lib.hid (own_mono hF hbase)
          clear hF
          clear hown hgr hnil HC1 hn1 HO HR
          go_wp2
          go_ret
          exact ⟨g9, k + 1 + (m - k), cap9, _, rfl, hYL, by omega, HY.out, HF.out, hb⟩
/-! ### The reference's own list -/
def someWords : List ByteArray := [⟨#[97, 110]⟩, ⟨#[97, 116]⟩, ⟨#[97, 116, 101]⟩, ⟨#[101, 97, 114]⟩, ⟨#[101, 97, 114, 110]⟩, ⟨#[101, 97, 114, 115]⟩, ⟨#[101, 97, 115, 116]⟩, ⟨#[101, 97, 116]⟩, ⟨#[101, 97, 116, 101, 110]⟩, ⟨#[101, 97, 116, 115]⟩, ⟨#[101, 110]⟩, ⟨#[97, 110, 116]⟩, ⟨#[97, 110, 116, 115]⟩, ⟨#[97, 114, 101]⟩, ⟨#[97, 114, 101, 110, 97]⟩, ⟨#[97, 114, 116]⟩, ⟨#[97, 114, 116, 115]⟩, ⟨#[97, 115]⟩, ⟨#[101, 114]⟩, ⟨#[101, 115]⟩, ⟨#[105, 110]⟩, ⟨#[105, 115]⟩, ⟨#[110, 97]⟩, ⟨#[110, 101]⟩, ⟨#[110, 101, 97, 114]⟩, ⟨#[110, 101, 97, 116]⟩, ⟨#[110, 101, 115, 116]⟩, ⟨#[110, 101, 115, 116, 115]⟩, ⟨#[110, 101, 116]⟩, ⟨#[114, 97, 116]⟩, ⟨#[114, 97, 116, 101]⟩, ⟨#[114, 97, 116, 101, 115]⟩, ⟨#[114, 101]⟩, ⟨#[114, 101, 115, 116]⟩, ⟨#[115, 97, 116]⟩, ⟨#[115, 101, 97]⟩, ⟨#[115, 101, 97, 116]⟩, ⟨#[115, 101, 116]⟩, ⟨#[116, 97]⟩, ⟨#[116, 97, 114]⟩, ⟨#[116, 97, 114, 115]⟩, ⟨#[116, 97, 114, 116]⟩, ⟨#[116, 101, 97]⟩, ⟨#[116, 101, 97, 114]⟩, ⟨#[116, 101, 97, 115]⟩, ⟨#[116, 101, 110]⟩, ⟨#[116, 101, 114, 110]⟩, ⟨#[116, 101, 115, 116]⟩, ⟨#[116, 101, 115, 116, 115]⟩, ⟨#[116, 114, 101, 101, 115]⟩, ⟨#[98, 97, 110, 97, 110, 97]⟩, ⟨#[98, 101, 101]⟩, ⟨#[98, 101, 101, 110]⟩, ⟨#[98, 101, 101, 115]⟩, ⟨#[115, 116, 97, 114]⟩, ⟨#[115, 116, 97, 114, 101]⟩, ⟨#[115, 116, 97, 114, 116]⟩, ⟨#[116, 114, 101, 101]⟩, ⟨#[115, 116, 97, 114, 115]⟩, ⟨#[116, 114, 101, 97, 116, 115]⟩]
theorem own_lits (w : World) (xs : List ByteArray) (t : TypeId) (cs : Array Value) (hc : cs = (xs.map Value.string).toArray) (n : Nat) (hn : n = xs.length) (hl : xs.length ≤ 1099511627776) : (w.alloc (.cells cs t)).ownsRow w.heap.size t 1 (.slice (some ⟨w.heap.size, 0, none⟩) n n) n (xs.flatMap Tx.enc) := by
  subst hc hn
  exact own_new_texts w xs t hl
theorem some_short : ∀ x ∈ someWords, x.size ≤ 20 := by
  have : someWords.all (fun x => decide (x.size ≤ 20)) = true := by rfl
  intro x hx
  exact of_decide_eq_true (List.all_eq_true.1 this x hx)
set_option maxRecDepth 100000 in
set_option maxHeartbeats 2000000 in
theorem l05Some_any (w : World) : Calls Tryz.prog 232 #[] w fun e w' => e = .returned (.slice (some ⟨w.heap.size, 0, none⟩) 60 60) ∧ w'.ownsRow w.heap.size 9 1 (.slice (some ⟨w.heap.size, 0, none⟩) 60 60) 60 (someWords.flatMap Tx.enc) ∧ Below w.heap.size w w' := by
  go_enter Tryz.func232, Tryz.ntmps232
  go_wp2
  go_ret
  exact ⟨rfl, own_lits w someWords _ _ rfl _ rfl (by decide), (Below.refl _ _).alloc (Nat.le_refl _) _⟩
/-- a list of at most M short words comes back, in a row of its own -/
def ListOut (base M : Nat) (w : World) (e : Ending) (w' : World) : Prop :=
  ∃ (g m cap : Nat) (ys : List ByteArray), e = .returned (.slice (some ⟨g, 0, none⟩) m cap) ∧ ys.length = m ∧ m ≤ M ∧ (∀ x ∈ ys, x.size ≤ 20) ∧ w'.ownsRow base 9 1 (.slice (some ⟨g, 0, none⟩) m cap) m (ys.flatMap Tx.enc) ∧ Below w.heap.size w w'
set_option maxRecDepth 100000 in
set_option maxHeartbeats 2000000 in
theorem l05Make_any (ws : List ByteArray) (g m cap base : Nat) (w : World) (ho : w.ownsRow base 9 1 (.slice (some ⟨g, 0, none⟩) m cap) m (ws.flatMap Tx.enc)) (hm : ws.length = m) (hM : m ≤ 900) (hws : ∀ x ∈ ws, x.size ≤ 20) :
    Calls Tryz.prog 231 #[.slice (some ⟨g, 0, none⟩) m cap] w (ListOut w.heap.size m w) := by
  have hlt := (ho.lt g rfl).2
  have HWS := Lib.hid hws
  have hx : Below w.heap.size w (w.alloc (.cells #[] 9)) := (Below.refl _ _).alloc (Nat.le_refl _) _
  have HL := Lib.hid (own_below ho hx)
  have HO : Hid ((w.alloc (.cells #[] 9)).ownsRow w.heap.size 9 1 (.slice (some ⟨w.heap.size, 0, none⟩) 0 0) 0 ([].flatMap Tx.enc)) := Lib.hid (own_empty w 9)
  have hb := hx
  clear ho hws hx
  go_enter Tryz.func231, Tryz.ntmps231
  go_upto_region 2 with fail
  generalize w.alloc (.cells #[] 9) = w1 at *
  go_wp2_with fail
  go_loopw [3, 4] (fun ov iv wr => ∃ (i g1 m1 cap1 : Nat) (ys : List ByteArray), i ≤ m ∧ iv = .int .i64 i ∧ ov = .slice (some ⟨g1, 0, none⟩) m1 cap1 ∧ ys.length = m1 ∧ m1 ≤ i ∧ Hid (∀ x ∈ ys, x.size ≤ 20) ∧ Hid (wr.ownsRow w.heap.size 9 1 (.slice (some ⟨g1, 0, none⟩) m1 cap1) m1 (ys.flatMap Tx.enc)) ∧ Hid (wr.ownsRow base 9 1 (.slice (some ⟨g, 0, none⟩) m cap) m (ws.flatMap Tx.enc)) ∧ Below w.heap.size w wr) (fun _ iv _ => m - (intOf iv).toNat)
  case atStart => exact ⟨0, w.heap.size, 0, 0, [], Nat.zero_le _, rfl, rfl, rfl, Nat.le_refl _, Lib.hid (fun x hx => by cases hx), HO, HL, hb⟩
  case round =>
    clear HO HL hb
    obtain ⟨i, g1, m1, cap1, ys, hi, rfl, rfl, hyl, hmi, HY, HO, HL, hb⟩ := hrel
    by_cases hlt2 : i < m
    · have hiI : (i : Int) < (m : Int) := by omega
      have c0 := own_at HL.out hm.symm (j := i) (by omega)
      have ht := HWS.out ws[i] (List.getElem_mem (by omega))
      generalize ws[i] = t at *
      go_wp2_with fail
      refine (l03Insert_any ys g1 m1 cap1 w.heap.size t wr HO.out hyl (by omega) ht HY.out hb.size).mono ?_
      rintro e w2 ⟨g2, m2, cap2, zs, rfl, hzl, hm2, hz, ho2, hd⟩
      have HO2 := Lib.hid ho2
      have HZ := Lib.hid hz
      replace HL := Lib.hid (own_below HL.out hd)
      replace hb := hb.trans (hd.mono hb.size)
      clear ho2 hz hd HO HY c0 ht
      go_wp2
      go_roundw
      case rel => exact ⟨i + 1, g2, m2, cap2, zs, by omega, by go_num, rfl, hzl, by omega, HZ, HO2, HL, hb⟩
      case measure => simp [intOf]; omega
    · go_wp2
      go_ret
      exact ⟨g1, m1, cap1, ys, rfl, hyl, by omega, HY.out, HO.out, hb⟩
end Go.Proofs.YtjdcdhhbgijaoaaGreatDoor
