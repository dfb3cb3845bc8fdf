/- Contract: the table of a tournament (reference). -/
import Derived.Test.YtpodkgfapbcmlaaStA
import Derived.Laws.AppendOwn
import Derived.Deep.CutBlock
import Derived.Deep.DeepMust
namespace Go.Proofs.Ytpodkgfapbcmlaa
open Go.ChangeShapes Go.WideShapes Go.ChangeAt Go.RowKit Go.Sort

theorem std_oneCell (ms : List Std) : ∀ u ∈ ms.flatMap Std.enc, u.oneCell' = true := by
  intro u hu
  obtain ⟨m, _, hm⟩ := List.mem_flatMap.1 hu
  simp only [Std.enc, List.mem_cons, List.not_mem_nil, or_false] at hm
  rcases hm with rfl | rfl | rfl | rfl <;> rfl
/-- cells of a row, from its head and from further on -/
theorem own_news {w : World} {B : Nat} {e : TypeId} {sz g cap n : Nat} {L1 L2 : List Value} (h : w.ownsRow B e sz (.slice (some ⟨g, 0, none⟩) n cap) n (L1 ++ L2)) : ∀ j u, L1[j]? = some u → w.cell? ((⟨g, 0, none⟩ : Addr).add j) = some u := by
  intro j u hj
  have hl : j < L1.length := (List.getElem?_eq_some_iff.1 hj).1
  rw [Go.Addr.add_lit, Nat.zero_add, h.cellAt j (by rw [← h.1]; simp; omega), List.getElem?_append_left hl]
  exact hj
theorem own_news2 {w : World} {B : Nat} {e : TypeId} {sz g cap n p : Nat} {L1 L2 : List Value} (h : w.ownsRow B e sz (.slice (some ⟨g, 0, none⟩) n cap) n (L1 ++ L2)) (hp : p = L1.length) : ∀ j u, L2[j]? = some u → w.cell? ((⟨g, p, none⟩ : Addr).add j) = some u := by
  intro j u hj
  subst hp
  have hl : j < L2.length := (List.getElem?_eq_some_iff.1 hj).1
  rw [Go.Addr.add_lit, h.cellAt (L1.length + j) (by rw [← h.1]; simp; omega), List.getElem?_append_right (by omega)]
  simpa using hj
theorem own_std {w : World} {B : Nat} {e : TypeId} {g cap n : Nat} {L : List Std} (h : w.ownsRow B e 4 (.slice (some ⟨g, 0, none⟩) n cap) n (L.flatMap Std.enc)) (hn : n = L.length) {i : Nat} (hi : i < L.length) : StdAt w g (i * 4) L[i] :=
  ⟨own_cells Std.enc_len h hn hi (j := 0) rfl, own_cells Std.enc_len h hn hi (j := 1) rfl, own_cells Std.enc_len h hn hi (j := 2) rfl, own_cells Std.enc_len h hn hi (j := 3) rfl⟩
theorem own_cap {w : World} {B : Nat} {e : TypeId} {sz n cap : Nat} {a : Addr} {L : List Value} (h : w.ownsRow B e sz (.slice (some a) n cap) n L) : n ≤ cap ∧ cap ≤ maxLen := by
  rcases h.2 with ⟨hv, _⟩ | ⟨g, c, cur, hv, _, _, h1, h2, _⟩
  · simp at hv
  · simp only [Value.slice.injEq] at hv
    obtain ⟨_, _, rfl⟩ := hv
    exact ⟨h1, h2⟩
/-- where the line goes -/
def SpotAt (w : World) (T : List Std) (x : Std) (g cp k X cb co : Nat) (v : Value) (s8 : Value) (wx : World) : Prop :=
  ∃ (j : Nat) (A B : List Std), s8 = .int .i64 j ∧ A.length = j ∧ T = A ++ B ∧ insR stdBefore T x = A ++ x :: B ∧ wx.ownsRow w.heap.size 74 4 (.slice (some ⟨g, 0, none⟩) k cp) k (T.flatMap Std.enc) ∧ StdAt wx X 0 x ∧ wx.cell? ⟨cb, co, none⟩ = some v ∧ Below w.heap.size w wx
/-- the table after k members -/
def tableTo (ms : List Mem) (rs : List Res) (k : Nat) : List Std := ((ms.take k).map fun m => lineOf m.name rs).foldl (insR stdBefore) []
theorem tableTo_succ {ms : List Mem} {rs : List Res} {k : Nat} (h : k < ms.length) : tableTo ms rs (k + 1) = insR stdBefore (tableTo ms rs k) (lineOf ms[k].name rs) := by
  unfold tableTo
  rw [List.take_succ_eq_append_getElem h, List.map_append, List.foldl_append]
  rfl
theorem tableTo_len {ms : List Mem} {rs : List Res} {k : Nat} (h : k ≤ ms.length) : (tableTo ms rs k).length = k := by unfold tableTo; rw [foldl_insR_len]; simp; omega
theorem tableTo_all (ms : List Mem) (rs : List Res) : tableTo ms rs ms.length = tableOf ms rs := by unfold tableTo tableOf; rw [List.take_length]

set_option maxRecDepth 100000 in
set_option maxHeartbeats 8000000 in
theorem l26Table_anyN (ms : List Mem) (rs : List Res) (cb co : Nat) (aq : Option Addr) (cap : Nat) (ra : Option Addr) (rcap : Nat) (w : World) (hc : w.cell? ⟨cb, co, none⟩ = some (.slice aq ms.length cap)) (hm : SliceAt w 2 Mem.enc aq ms) (hn : aq = none → ms = [] ∧ cap = 0) (hr : SliceAt w 4 Res.enc ra rs)
    (hl : ms.length ≤ 12) (hlr : rs.length ≤ 200) (hok : rs.all resOk = true) :
    Calls Try.prog 90 #[.pointer (some ⟨cb, co, none⟩), .slice ra rs.length rcap] w (CopyPost w 74 4 Std.enc (tableOf ms rs)) := by
  have HM := Lib.hid hm; clear hm
  have HNN := Lib.hid hn; clear hn
  have HRS := Lib.hid hr; clear hr
  have HOK := Lib.hid hok; clear hok
  obtain ⟨i0, hi0, hz0, hz1, hz2⟩ := info_parts infoStanding
  have hd : Below w.heap.size w (w.alloc (.cells #[] 74)) := (Below.refl _ _).alloc (Nat.le_refl _) _
  have hown := Lib.hid (World.ownsRow_made (base := w.heap.size) (e := 74) (size := 4) w #[] 0 (Nat.le_refl _) (by unfold maxLen; omega) rfl)
  have hcA := cell_kept hc hd
  go_enter Try.func90, Try.ntmps90
  go_wp2
  generalize w.alloc (.cells #[] 74) = w2 at *
  go_loopw [5, 6] (fun ov iv wr => ∃ (k g cp : Nat), k ≤ ms.length ∧ iv = .int .i64 k ∧ ov = .slice (some ⟨g, 0, none⟩) k cp ∧ Hid (wr.ownsRow w.heap.size 74 4 (.slice (some ⟨g, 0, none⟩) k cp) k ((tableTo ms rs k).flatMap Std.enc)) ∧
      wr.cell? ⟨cb, co, none⟩ = some (.slice aq ms.length cap) ∧ Below w.heap.size w wr) (fun _ iv _ => ms.length - (intOf iv).toNat)
  case atStart => exact ⟨0, _, 0, Nat.zero_le _, rfl, rfl, hown, hcA, hd⟩
  case round =>
    clear hown hcA hd
    obtain ⟨k, g, cp, hk, rfl, rfl, HO, c1, hb⟩ := hrel
    by_cases hlt : k < ms.length
    · obtain ⟨mb, mo, hab, hcs⟩ := (HM.out.kept hb).open hlt
      subst hab
      have m0 := hcs.at0 hlt rfl
      clear hcs
      have HL := Lib.hid (l26Line_any ms[k].name rs ra rcap wr (HRS.out.kept hb) hlr HOK.out)
      have HSUCC := Lib.hid (tableTo_succ (rs := rs) hlt)
      have HLEN := Lib.hid (tableTo_len (rs := rs) hk)
      have HNM := Lib.hid (lineOf_name ms[k].name rs)
      obtain ⟨x, hx⟩ : ∃ x, lineOf ms[k].name rs = x := ⟨_, rfl⟩
      rw [hx] at HL HSUCC HNM
      clear hx
      generalize tableTo ms rs k = T at *
      go_wp2_with fail
      refine HL.out.mono ?_
      rintro e w3 ⟨rfl, hd⟩
      replace HO := Lib.hid (own_below HO.out hd)
      replace hb := hb.trans (hd.mono hb.size)
      replace c1 := cell_kept c1 hd
      clear hd
      have hd : Below w3.heap.size w3 (w3.alloc (.cells #[.string ms[k].name, .int .i64 x.points, .int .i64 x.spread, .int .i64 x.games] 74)) := (Below.refl _ _).alloc (Nat.le_refl _) _
      have hX : StdAt (w3.alloc (.cells #[.string ms[k].name, .int .i64 x.points, .int .i64 x.spread, .int .i64 x.games] 74)) w3.heap.size 0 x := by
        rw [← HNM.out]
        exact row_std (row_new w3 x _ 0 (Nat.zero_le _))
      replace HO := Lib.hid (own_below HO.out hd)
      replace hb := hb.trans (hd.mono hb.size)
      replace c1 := cell_kept c1 hd
      clear hd
      go_upto_block 2 with fail
      generalize w3.alloc (.cells #[.string ms[k].name, .int .i64 x.points, .int .i64 x.spread, .int .i64 x.games] 74) = w4 at *
      go_cut [8] (fun s8 wx => SpotAt w T x g cp k w3.heap.size cb co (.slice (some ⟨mb, mo, none⟩) ms.length cap) s8 wx)
      case first =>
        go_wp2_with fail
        go_loopw [8] (fun s8 wr2 => ∃ (j : Nat) (A B : List Std), s8 = .int .i64 j ∧ A.length = j ∧ j ≤ k ∧ Hid (T = A ++ B) ∧ Hid (insR stdBefore A x ++ B = insR stdBefore T x) ∧ Hid (wr2.ownsRow w.heap.size 74 4 (.slice (some ⟨g, 0, none⟩) k cp) k (T.flatMap Std.enc)) ∧ StdAt wr2 w3.heap.size 0 x ∧
            wr2.cell? ⟨cb, co, none⟩ = some (.slice (some ⟨mb, mo, none⟩) ms.length cap) ∧ Below w.heap.size w wr2) (fun s8 _ => (intOf s8).toNat)
        case atStart => exact ⟨k, T, [], rfl, HLEN.out, Nat.le_refl _, Lib.hid (by simp), Lib.hid (by simp), HO, hX, c1, hb⟩
        case round =>
          clear HO hX c1 hb m0
          obtain ⟨j, A, B, rfl, hAj, hjk, HT, HI, HO, hX, c1, hb⟩ := hrel
          rcases List.eq_nil_or_concat A with rfl | ⟨A', y, rfl⟩
          · obtain rfl : j = 0 := by simpa using hAj.symm
            clear hAj
            go_wp2
            go_meet
            exact ⟨0, [], B, rfl, rfl, HT.out, by rw [← HI.out]; rfl, HO.out, hX, c1, hb⟩
          · simp only [List.concat_eq_append] at HT HI hAj
            have hj1 : A'.length + 1 = j := by simpa using hAj
            clear hAj
            have hTl : T.length = A'.length + 1 + B.length := by rw [HT.out]; simp; omega
            have hy := own_std HO.out HLEN.out.symm (i := j - 1) (by omega)
            have ey : T[j - 1]'(by omega) = y := by
              have h1 : T[j - 1]? = some y := by rw [HT.out, List.getElem?_append_left (by simp; omega), List.getElem?_append_right (by omega)]; simp [show j - 1 - A'.length = 0 by omega]
              rw [List.getElem?_eq_getElem (by omega)] at h1
              exact Option.some.inj h1
            rw [ey] at hy
            have HY := Lib.hid hy
            have HXX := Lib.hid hX
            clear hy ey hX
            have hb1 : (1 : Int) ≤ (j : Int) := by omega
            have hb2 : (j : Int) - 1 < (k : Int) := by omega
            have hb0 : (0 : Int) < (j : Int) := by omega
            clear hTl
            cases hbf : stdBefore x y with
            | true =>
              have HBF := Lib.hid hbf
              clear hbf
              go_wp2_with fail
              refine (l26Before_any x y _ _ _ _ _ HXX.out HY.out).mono ?_
              rintro e w5 ⟨rfl, hdr⟩
              rw [HBF.out]
              have hd := hdr.below wr.heap.size
              clear hdr
              replace HO := Lib.hid (own_below HO.out hd)
              have hX := HXX.out.kept hd
              replace hb := hb.trans (hd.mono hb.size)
              replace c1 := cell_kept c1 hd
              clear hd
              go_wp2
              go_roundw
              case rel => exact ⟨j - 1, A', y :: B, by first | go_num | (congr 1; omega), by omega, by omega, Lib.hid (by rw [HT.out]; simp), Lib.hid (by rw [← HI.out, insR_go HBF.out]; simp), HO, hX, c1, hb⟩
              case measure => simp [intOf]; omega
            | false =>
              have HBF := Lib.hid hbf
              clear hbf
              go_wp2_with fail
              refine (l26Before_any x y _ _ _ _ _ HXX.out HY.out).mono ?_
              rintro e w5 ⟨rfl, hdr⟩
              rw [HBF.out]
              have hd := hdr.below wr.heap.size
              clear hdr
              replace HO := Lib.hid (own_below HO.out hd)
              have hX := HXX.out.kept hd
              replace hb := hb.trans (hd.mono hb.size)
              replace c1 := cell_kept c1 hd
              clear hd
              go_wp2
              go_meet
              exact ⟨j, A' ++ [y], B, rfl, by simp; omega, HT.out, by rw [← HI.out, insR_stop HBF.out]; simp, HO.out, hX, c1, hb⟩
      case rest =>
        clear HO hX c1 hb m0
        generalize wc = wa at *
        obtain ⟨j, A, B, rfl, hAj, hT, hI, hO, hX, c1, hb⟩ := hcut
        subst hT
        have hgl := (hO.lt g rfl).2
        have hAB : A.length + B.length = k := by have := HLEN.out; simpa using this
        obtain ⟨hkc, hcm⟩ := own_cap hO
        unfold maxLen at hcm
        have hjc : j ≤ cp := by omega
        have hjk : j ≤ k := by omega
        have HAB := Lib.hid hAB
        clear hAB
        have HAJ := Lib.hid hAj
        clear hAj
        have hO2 : wa.ownsRow w.heap.size 74 4 (.slice (some ⟨g, 0, none⟩) k cp) k (A.flatMap Std.enc ++ B.flatMap Std.enc) := own_as hO (by simp)
        have HO := Lib.hid hO2
        have HI := Lib.hid hI
        clear hO hO2 hI
        have hx : Below wa.heap.size wa (wa.alloc (.cells #[] 74)) := (Below.refl _ _).alloc (Nat.le_refl _) _
        have KO := Lib.hid (World.ownsRow_made (base := wa.heap.size) (e := 74) (size := 4) wa #[] 0 (Nat.le_refl _) (by unfold maxLen; omega) rfl)
        have KX := Lib.hid (own_alloc HO.out (.cells #[] 74))
        have KN := Lib.hid (own_news KX.out)
        have KL := Lib.hid (show (A.flatMap Std.enc).length = j * 4 by rw [flatMap_len Std.enc_len, HAJ.out])
        have hXX := Lib.hid (hX.kept hx)
        have hl3 := block_lt hX.1
        have c1a := cell_kept c1 hx
        have hba := hb.trans (hx.mono hb.size)
        clear hX c1
        go_wp2_with (at_builtin; go_must (refine wpList_append_own _ rfl (.tmp 43) (.tmp 46) 70 rfl wa.heap.size 74 i0 (.agg #[.string ⟨#[]⟩, .int .i64 0, .int .i64 0, .int .i64 0]) 4 40 Try.underlying70 hi0 hz0 hz1 hz2 rfl (by decide) (.slice (some ⟨wa.heap.size, 0, none⟩) 0 0) 0 [] rfl KO.out ⟨g, 0, none⟩ j cp (A.flatMap Std.enc) rfl KL.out KN.out (std_oneCell A) ?a1 ?a2 ?a3 ?_))
        case a1 => unfold maxLen; omega
        case a2 => omega
        case a3 => simp
        intro v5 w5 ho5 hg5 hn5
        obtain ⟨g5, cap5, rfl, hB5⟩ : ∃ g5 cap5, v5 = .slice (some ⟨g5, 0, none⟩) j cap5 ∧ wa.heap.size ≤ g5 := by
          rcases ho5.2 with ⟨h, _⟩ | ⟨g5, c5, _, h, h1, _⟩
          · exact (hn5 h).elim
          · exact ⟨g5, c5, h, h1⟩
        have HO5 := Lib.hid (KX.out.kept hg5 (.inr (by simp [Value.ownBlock]; omega)))
        have hX5 : StdAt w5 w3.heap.size 0 x := by
          have h3 : some w3.heap.size ≠ (Value.slice (some ⟨wa.heap.size, 0, none⟩) 0 0).ownBlock := by simp [Value.ownBlock]; omega
          exact ⟨hg5.cell hXX.out.1 h3, hg5.cell hXX.out.2.1 h3, hg5.cell hXX.out.2.2.1 h3, hg5.cell hXX.out.2.2.2 h3⟩
        have c15 : w5.cell? ⟨cb, co, none⟩ = some (.slice (some ⟨mb, mo, none⟩) ms.length cap) := hg5.cell c1a (by have := block_lt hc; have := hb.size; simp [Value.ownBlock]; omega)
        have hb5 := hba.grown hg5 hba.size (fun k hk => by have := hb.size; simp [Value.ownBlock] at hk; omega)
        have h5 := hg5.size
        have hl5 : wa.heap.size < w5.heap.size := by simp at h5; omega
        have HO55 := Lib.hid ho5
        have hw5 := hb.size
        clear ho5 hg5 hn5 c1a hba hXX KN KX KO KL hx hb
        obtain ⟨x0, x1, x2, x3⟩ := hX5
        -- the line
        have hx : Below w5.heap.size w5 (w5.alloc (.cells #[.string x.name, .int .i64 x.points, .int .i64 x.spread, .int .i64 x.games] 74)) := (Below.refl _ _).alloc (Nat.le_refl _) _
        have KO := Lib.hid (own_alloc HO55.out (.cells #[.string x.name, .int .i64 x.points, .int .i64 x.spread, .int .i64 x.games] 74))
        have KX := Lib.hid (own_alloc HO5.out (.cells #[.string x.name, .int .i64 x.points, .int .i64 x.spread, .int .i64 x.games] 74))
        have KN := Lib.hid (own_news (L1 := Std.enc x) (L2 := []) (row_new w5 x 74 0 (Nat.zero_le _)))
        have c1a := cell_kept c15 hx
        have hba := hb5.trans (hx.mono hb5.size)
        go_wp2_with (at_builtin; go_must (refine wpList_append_own _ rfl (.tmp 48) (.tmp 50) 70 rfl wa.heap.size 74 i0 (.agg #[.string ⟨#[]⟩, .int .i64 0, .int .i64 0, .int .i64 0]) 4 40 Try.underlying70 hi0 hz0 hz1 hz2 rfl (by decide) (.slice (some ⟨g5, 0, none⟩) j cap5) j (A.flatMap Std.enc) rfl KO.out ⟨w5.heap.size, 0, none⟩ 1 1 (Std.enc x) rfl rfl KN.out (fun u hu => std_oneCell [x] u (by simpa using hu)) ?a4 ?a5 ?a6 ?_))
        case a4 => unfold maxLen; omega
        case a5 => omega
        case a6 => simp; omega
        intro v6 w6 ho6 hg6 hn6
        obtain ⟨g6, cap6, rfl, hB6⟩ : ∃ g6 cap6, v6 = .slice (some ⟨g6, 0, none⟩) (j + 1) cap6 ∧ wa.heap.size ≤ g6 := by
          rcases ho6.2 with ⟨h, _⟩ | ⟨g6, c6, _, h, h1, _⟩
          · exact (hn6 h).elim
          · exact ⟨g6, c6, h, h1⟩
        have hcbw := block_lt hc
        have HO6 := Lib.hid (KX.out.kept hg6 (.inr (by simp [Value.ownBlock]; omega)))
        have c16 : w6.cell? ⟨cb, co, none⟩ = some (.slice (some ⟨mb, mo, none⟩) ms.length cap) := hg6.cell c1a (by simp [Value.ownBlock]; omega)
        have hb6 := hba.grown hg6 hba.size (fun k hk => by simp [Value.ownBlock] at hk; omega)
        have h6 := hg6.size
        have hl6 : wa.heap.size < w6.heap.size := by simp at h6; omega
        have HO66 := Lib.hid ho6
        clear ho6 hg6 hn6 c1a hba KN KX KO hx x0 x1 x2 x3
        by_cases hcj : cp = j
        · have hkj : k = j := by omega
          have hBn : B = [] := List.eq_nil_of_length_eq_zero (by have := HAB.out; have := HAJ.out; omega)
          subst hBn
          have KL : Hid ((([] : List Std).flatMap Std.enc).length = 0 * 4) := Lib.hid (by simp)
          have KN : Hid (∀ p u, (([] : List Std).flatMap Std.enc)[p]? = some u → w6.cell? ((⟨g, 0, none⟩ : Addr).add p) = some u) := Lib.hid (fun p u h => by simp at h)
          obtain rfl : j = cp := hcj.symm
          obtain rfl : k = j := hkj
          have hx : Below w6.heap.size w6 w6 := Below.refl _ _
          go_wp2_with (at_builtin; go_must (refine wpList_append_own _ rfl (.tmp 52) (.tmp 55) 70 rfl wa.heap.size 74 i0 (.agg #[.string ⟨#[]⟩, .int .i64 0, .int .i64 0, .int .i64 0]) 4 40 Try.underlying70 hi0 hz0 hz1 hz2 rfl (by decide) (.slice (some ⟨g6, 0, none⟩) (k + 1) cap6) (k + 1) (A.flatMap Std.enc ++ Std.enc x) rfl HO66.out ⟨g, 0, none⟩ 0 0 (([] : List Std).flatMap Std.enc) rfl KL.out KN.out (std_oneCell []) ?b1 ?b2 ?b3 ?_))
          case b1 => unfold maxLen; omega
          case b2 => omega
          case b3 => omega
          intro v7 w7 ho7 hg7 hn7
          obtain ⟨g7, cap7, rfl, hB7⟩ : ∃ g7 cap7, v7 = .slice (some ⟨g7, 0, none⟩) (k + 1) cap7 ∧ wa.heap.size ≤ g7 := by
            rcases ho7.2 with ⟨h, _⟩ | ⟨g7, c7, _, h, h1, _⟩
            · exact (hn7 h).elim
            · exact ⟨g7, c7, h, h1⟩
          have HO7 : Hid (w7.ownsRow w.heap.size 74 4 (.slice (some ⟨g7, 0, none⟩) (k + 1) cap7) (k + 1) ((tableTo ms rs (k + 1)).flatMap Std.enc)) := by
            rw [HSUCC.out, HI.out]
            exact Lib.hid (own_as (own_mono ho7 (by omega)) (by simp))
          have c17 : w7.cell? ⟨cb, co, none⟩ = some (.slice (some ⟨mb, mo, none⟩) ms.length cap) := hg7.cell c16 (by simp [Value.ownBlock]; omega)
          have hb7 := hb6.grown hg7 hb6.size (fun k hk => by simp [Value.ownBlock] at hk; omega)
          clear ho7 hg7 hn7
          go_wp2
          go_roundw
          case rel => exact ⟨k + 1, g7, cap7, by omega, by go_num, rfl, HO7, c17, hb7⟩
          case measure => simp [intOf]; omega
        · have KL : Hid ((B.flatMap Std.enc).length = (k - j) * 4) := Lib.hid (by rw [flatMap_len Std.enc_len]; congr 1; have := HAB.out; have := HAJ.out; omega)
          have KN := Lib.hid (own_news2 (p := j * 4) HO6.out (by rw [flatMap_len Std.enc_len, HAJ.out]))
          have hx : Below w6.heap.size w6 w6 := Below.refl _ _
          go_wp2_with (at_builtin; go_must (refine wpList_append_own _ rfl (.tmp 52) (.tmp 55) 70 rfl wa.heap.size 74 i0 (.agg #[.string ⟨#[]⟩, .int .i64 0, .int .i64 0, .int .i64 0]) 4 40 Try.underlying70 hi0 hz0 hz1 hz2 rfl (by decide) (.slice (some ⟨g6, 0, none⟩) (j + 1) cap6) (j + 1) (A.flatMap Std.enc ++ Std.enc x) rfl HO66.out ⟨g, j * 4, none⟩ (k - j) (cp - j) (B.flatMap Std.enc) rfl KL.out KN.out (std_oneCell B) ?d1 ?d2 ?d3 ?_))
          case d1 => unfold maxLen; omega
          case d2 => omega
          case d3 => omega
          intro v7 w7 ho7 hg7 hn7
          obtain ⟨g7, cap7, rfl, hB7⟩ : ∃ g7 cap7, v7 = .slice (some ⟨g7, 0, none⟩) (j + 1 + (k - j)) cap7 ∧ wa.heap.size ≤ g7 := by
            rcases ho7.2 with ⟨h, _⟩ | ⟨g7, c7, _, h, h1, _⟩
            · exact (hn7 h).elim
            · exact ⟨g7, c7, h, h1⟩
          have hk1 : j + 1 + (k - j) = k + 1 := by omega
          rw [hk1] at ho7 ⊢
          have HO7 : Hid (w7.ownsRow w.heap.size 74 4 (.slice (some ⟨g7, 0, none⟩) (k + 1) cap7) (k + 1) ((tableTo ms rs (k + 1)).flatMap Std.enc)) := by
            rw [HSUCC.out, HI.out]
            exact Lib.hid (own_as (own_mono ho7 (by omega)) (by simp))
          have c17 : w7.cell? ⟨cb, co, none⟩ = some (.slice (some ⟨mb, mo, none⟩) ms.length cap) := hg7.cell c16 (by simp [Value.ownBlock]; omega)
          have hb7 := hb6.grown hg7 hb6.size (fun k hk => by simp [Value.ownBlock] at hk; omega)
          clear ho7 hg7 hn7 hk1
          go_wp2
          go_roundw
          case rel => exact ⟨k + 1, g7, cap7, by omega, by go_num, rfl, HO7, c17, hb7⟩
          case measure => simp [intOf]; omega
    · have hend : k = ms.length := by omega
      subst hend
      have HA := Lib.hid (tableTo_all ms rs)
      have HLN := Lib.hid (tableOf_len ms rs)
      go_wp2
      go_ret
      refine ⟨some ⟨g, 0, none⟩, cp, ?_, ?_, hb⟩
      · rw [HLN.out]; rfl
      · rw [HLN.out, ← HA.out]; exact HO.out
theorem l26Table_any (ms : List Mem) (rs : List Res) (cb co : Nat) (ad : Addr) (cap : Nat) (ra : Option Addr) (rcap : Nat) (w : World) (hc : w.cell? ⟨cb, co, none⟩ = some (.slice (some ad) ms.length cap)) (hm : SliceAt w 2 Mem.enc (some ad) ms) (hr : SliceAt w 4 Res.enc ra rs)
    (hl : ms.length ≤ 12) (hlr : rs.length ≤ 200) (hok : rs.all resOk = true) :
    Calls Try.prog 90 #[.pointer (some ⟨cb, co, none⟩), .slice ra rs.length rcap] w (CopyPost w 74 4 Std.enc (tableOf ms rs)) :=
  l26Table_anyN ms rs cb co (some ad) cap ra rcap w hc hm (by simp) hr hl hlr hok

end Go.Proofs.Ytpodkgfapbcmlaa
