/- Contract: the reference's club of a text. For every text of at most 2^20 bytes. -/
import Derived.Test.YtlbnjdgfggiifaaGreatDoorDoE
import Derived.Test.YtlbnjdgfggiifaaGreatDoorTxtC
import Derived.Test.YtlbnjdgfggiifaaGreatDoorVar
import Derived.Deep.RegionLaw
import Derived.Deep.DeepMust
namespace Go.Proofs.YtlbnjdgfggiifaaGreatDoor
open Go.ChangeShapes Go.WideShapes Go.ChangeAt Go.RowKit Go.Sort

/-- a club that was read, or none -/
def ClubRead (o : Option (List Mem)) (w : World) (e : Ending) (w' : World) : Prop :=
  ∃ (a : Option Addr) (cap : Nat), e = .returned (.tuple #[.agg #[.slice a (o.getD []).length cap], .bool o.isSome]) ∧ w'.ownsRow w.heap.size 53 2 (.slice a (o.getD []).length cap) (o.getD []).length ((o.getD []).flatMap Mem.enc) ∧ Below w.heap.size w w'
theorem mapO_append {α β : Type} {f : α → Option β} (a b : List α) {x : List β} (h : mapO f a = some x) : mapO f (a ++ b) = (mapO f b).map (x ++ ·) := by
  induction a generalizing x with
  | nil =>
    simp only [mapO, Option.some.injEq] at h
    subst h
    show mapO f b = _
    cases mapO f b <;> simp
  | cons y a ih =>
    simp only [mapO] at h
    split at h
    · cases h
    · rename_i z hz
      split at h
      · cases h
      · rename_i zs hzs
        simp only [Option.some.injEq] at h
        subst h
        rw [List.cons_append, mapO, hz]
        rw [ih hzs]
        cases mapO f b <;> simp
theorem mapO_snoc {α β : Type} {f : α → Option β} {l : List α} {k : Nat} (hk : k < l.length) {x : List β} {y : β} (h : mapO f (l.take k) = some x) (hy : f l[k] = some y) : mapO f (l.take (k + 1)) = some (x ++ [y]) := by
  rw [List.take_succ_eq_append_getElem hk, mapO_append _ _ h]
  simp [mapO, hy]
theorem mapO_none {α β : Type} {f : α → Option β} {l : List α} {x : α} (hx : x ∈ l) (hf : f x = none) : mapO f l = none := by
  induction l with
  | nil => cases hx
  | cons y l ih =>
    simp only [mapO]
    rcases List.mem_cons.1 hx with rfl | hx
    · rw [hf]
    · cases f y with
      | none => rfl
      | some z => rw [ih hx]
theorem specClub_last {l : List UInt8} {n : Nat} (hn : (splitL 10 l).length = n + 1) {q : List UInt8} (hq : (splitL 10 l)[n]? = some q) (h : q ≠ []) : specClub l = none := by
  unfold specClub
  rw [if_pos (.inl (by rw [List.getLast?_eq_getElem?, hn]; simp only [Nat.add_sub_cancel]; rw [hq]; simpa using h))]
theorem specClub_many {l : List UInt8} (h : 13 < (splitL 10 l).length) : specClub l = none := by
  unfold specClub
  rw [if_pos (.inr h)]
theorem specClub_go {l : List UInt8} {n : Nat} (hn : (splitL 10 l).length = n + 1) (hq : (splitL 10 l)[n]? = some []) (h : n ≤ 12) : specClub l = match mapO specLine ((splitL 10 l).take n) with
    | none => none
    | some ms => if clubOk ms = true then some ms else none := by
  unfold specClub
  rw [if_neg (by rw [List.getLast?_eq_getElem?, hn]; simp only [Nat.add_sub_cancel]; rw [hq]; simp; omega), List.dropLast_eq_take, hn]
  rfl
theorem specLine_two {l a x : List UInt8} (h : splitL 32 l = [a, x]) : specLine l = (specNum x).map fun n => ⟨mkB a, n⟩ := by
  unfold specLine; rw [h]
theorem specLine_other {l : List UInt8} (h : (splitL 32 l).length ≠ 2) : specLine l = none := by
  unfold specLine
  split
  · rename_i h2; rw [h2] at h; simp at h
  · rfl
theorem mem_one3 (m : Mem) : ∀ u ∈ Mem.enc m, u.oneCell' = true := by
  intro u hu
  simp only [Mem.enc, List.mem_cons, List.not_mem_nil, or_false] at hu
  rcases hu with rfl | rfl <;> rfl
set_option maxRecDepth 100000 in
set_option maxHeartbeats 8000000 in
theorem specReadClub_any (s : ByteArray) (w : World) (hs : s.size ≤ 1048576) : Calls Tryz.prog 9 #[.string s] w (ClubRead (specClub s.data.toList) w) := by
  obtain ⟨i0, hi0, hz0, hz1, hz2⟩ := info_parts infoMember
  have hb : Below w.heap.size w (w.alloc (.cells #[.slice none 0 0] 26)) := (Below.refl _ _).alloc (Nat.le_refl _) _
  have V0 := Lib.hid (VarAt.new w 26 [.slice none 0 0])
  have HSP : Hid (∀ W, Calls Tryz.prog 37 #[.string s, .int .u8 10] W (TextsPost W ((splitL 10 s.data.toList).map mkB))) := Lib.hid (fun W => l01Split_any s 10 W hs)
  have hsl : s.data.toList.length = s.size := Array.length_toList
  have HLE : Hid (∀ x ∈ splitL 10 s.data.toList, (mkB x).size ≤ 1048576) := Lib.hid (fun x hx => by rw [mkB_size]; have := split_len_le x hx; omega)
  clear hsl
  go_enter Tryz.func9, Tryz.ntmps9
  go_wp2_with fail
  refine (HSP.out _).mono ?_
  rintro e w2 ⟨g, cap, rfl, ho, hd⟩
  replace V0 := Lib.hid (V0.out.kept hd)
  have hgB : w.heap.size + 1 ≤ g := by have := (ho.lt g rfl).1; simpa using this
  replace hb := hb.trans (hd.mono hb.size)
  have hgl := (ho.lt g rfl).2
  clear hd HSP
  have hx : Below w2.heap.size w2 (w2.alloc (.cells #[.slice none 0 0] 26)) := (Below.refl _ _).alloc (Nat.le_refl _) _
  have V1 := Lib.hid (VarAt.new w2 26 [.slice none 0 0])
  have HO := Lib.hid (own_below ho hx)
  replace V0 := Lib.hid (V0.out.kept hx)
  replace hb := hb.trans (hx.mono hb.size)
  clear hx ho
  obtain ⟨n, hn⟩ : ∃ n, (splitL 10 s.data.toList).length = n + 1 := ⟨(splitL 10 s.data.toList).length - 1, by have := List.length_pos_iff.2 (splitL_ne 10 s.data.toList); omega⟩
  have HCN : Hid (∀ q, (splitL 10 s.data.toList).getD n [] = q → (splitL 10 s.data.toList)[n]? = some q) := Lib.hid (fun q e => by rw [List.getD_eq_getElem?_getD, List.getElem?_eq_getElem (by omega)] at e; rw [List.getElem?_eq_getElem (by omega)]; exact congrArg some e)
  have hnb : n ≤ 1048576 := by
    have h1 := splitL_len 10 s.data.toList
    have h2 := List.count_le_length (a := (10 : UInt8)) (l := s.data.toList)
    have h3 : s.data.toList.length = s.size := Array.length_toList
    omega
  have HP := Lib.hid hn
  have HC : Hid (∀ i, i < n + 1 → (w2.alloc (.cells #[.slice none 0 0] 26)).cell? ⟨g, i, none⟩ = some (.string (mkB ((splitL 10 s.data.toList).getD i [])))) := Lib.hid (fun i h => by
    have h2 : i < ((splitL 10 s.data.toList).map mkB).length := by rw [List.length_map]; omega
    have h3 : (splitL 10 s.data.toList).getD i [] = (splitL 10 s.data.toList)[i]'(by omega) := by rw [List.getD_eq_getElem?_getD, List.getElem?_eq_getElem (by omega)]; rfl
    have := own_cells (enc := Tx.enc) (fun _ => rfl) HO.out rfl (i := i) h2 (j := 0) (v := .string (mkB ((splitL 10 s.data.toList)[i]'(by omega)))) (by rw [List.getElem_map]; rfl)
    rw [h3]
    simpa using this)
  have hlen : ((splitL 10 s.data.toList).map mkB).length = n + 1 := by rw [List.length_map, hn]
  rw [hlen]
  have HLG : Hid (∀ i, i < n + 1 → (splitL 10 s.data.toList).getD i [] ∈ splitL 10 s.data.toList) := Lib.hid (fun i h => by rw [List.getD_eq_getElem?_getD, List.getElem?_eq_getElem (by omega)]; exact List.getElem_mem _)
  have HSN : Hid (∀ k ms m, k < n → mapO specLine ((splitL 10 s.data.toList).take k) = some ms → specLine ((splitL 10 s.data.toList).getD k []) = some m → mapO specLine ((splitL 10 s.data.toList).take (k + 1)) = some (ms ++ [m])) := Lib.hid (fun k ms m h h1 h2 => mapO_snoc (by omega) h1 (by rw [List.getD_eq_getElem?_getD, List.getElem?_eq_getElem (by omega)] at h2; exact h2))
  have HNO : Hid (∀ k, k < n → specLine ((splitL 10 s.data.toList).getD k []) = none → mapO specLine ((splitL 10 s.data.toList).take n) = none) := Lib.hid (fun k h h1 => mapO_none (x := (splitL 10 s.data.toList).getD k []) (by
    rw [List.getD_eq_getElem?_getD, List.getElem?_eq_getElem (by omega)]
    exact List.mem_take_iff_getElem.2 ⟨k, by omega, rfl⟩) h1)
  clear hlen hn HO
  have cn := HC.out n (by omega)
  go_upto_region 3 with fail
  generalize w2.alloc (.cells #[.slice none 0 0] 26) = W3 at *
  generalize w2.heap.size = B1 at *
  generalize hq : (splitL 10 s.data.toList).getD n [] = q at *
  by_cases hqe : q = []
  · subst hqe
    have HQ := Lib.hid (HCN.out _ rfl)
    have cn2 : W3.cell? ⟨g, n, none⟩ = some (.string ⟨#[]⟩) := cn
    clear hq cn HCN
    by_cases h12 : n ≤ 12
    · have hlt : ¬ (13 : Int) < (n : Int) + 1 := by omega
      have HGO := Lib.hid (specClub_go HP.out HQ.out h12)
      go_upto_region 6 with fail
      clear cn2
      go_loopw [6] (fun iv wr => ∃ (i : Nat) (a : Option Addr) (cp : Nat) (ms : List Mem), i ≤ n ∧ iv = .int .i64 i ∧ ms.length = i ∧ B1 < wr.heap.size ∧ Hid (mapO specLine ((splitL 10 s.data.toList).take i) = some ms) ∧ Hid (MemsFit ms) ∧ Hid (VarAt wr w.heap.size 26 [.slice none 0 0]) ∧ Hid (VarAt wr B1 26 [.slice a ms.length cp]) ∧
        Hid (wr.ownsRow (B1 + 1) 53 2 (.slice a ms.length cp) ms.length (ms.flatMap Mem.enc)) ∧ Hid (∀ i, i < n + 1 → wr.cell? ⟨g, i, none⟩ = some (.string (mkB ((splitL 10 s.data.toList).getD i [])))) ∧ Below w.heap.size w wr) (fun iv _ => n - (intOf iv).toNat)
      case atStart => exact ⟨0, none, 0, [], by omega, rfl, rfl, V1.out.lt, Lib.hid rfl, Lib.hid (fun m hm => by cases hm), V0, V1, Lib.hid (World.ownsRow_nil _ _ _ _), HC, hb⟩
      case round =>
        clear V0 V1 HC hb
        obtain ⟨i, a, cp, ms, hi, rfl, rfl, hB, HM, HF, V0, V1, HO, HC, hb⟩ := hrel
        by_cases hlt2 : ms.length < n
        · have cl := HC.out ms.length (by omega)
          have hfl := HLE.out _ (HLG.out ms.length (by omega))
          have HS2 : Hid (∀ W, Calls Tryz.prog 37 #[.string (mkB ((splitL 10 s.data.toList).getD ms.length [])), .int .u8 32] W (TextsPost W ((splitL 32 ((splitL 10 s.data.toList).getD ms.length [])).map mkB))) := Lib.hid (fun W => by have := l01Split_any (mkB ((splitL 10 s.data.toList).getD ms.length [])) 32 W hfl; rw [mkB_data] at this; exact this)
          have HNO2 := Lib.hid (HNO.out ms.length hlt2)
          have HSN2 := Lib.hid (fun m => HSN.out ms.length ms m hlt2 HM.out)
          generalize (splitL 10 s.data.toList).getD ms.length [] = L at *
          rw [mkB_size] at hfl
          have HLQ : Hid (∀ x ∈ splitL 32 L, (mkB x).size ≤ 1048576) := Lib.hid (fun x hx => by rw [mkB_size]; have := split_len_le x hx; omega)
          have hQ0 := List.length_pos_iff.2 (splitL_ne 32 L)
          have hQb : (splitL 32 L).length ≤ 1048577 := by
            have h1 := splitL_len 32 L
            have h2 := List.count_le_length (a := (32 : UInt8)) (l := L)
            omega
          clear hfl
          go_wp2_with fail
          refine (HS2.out _).mono ?_
          rintro e w3 ⟨g3, cap3, rfl, ho3, hd⟩
          replace V0 := Lib.hid (V0.out.kept hd)
          replace V1 := Lib.hid (V1.out.kept hd)
          replace HO := Lib.hid (own_below HO.out hd)
          replace HC : Hid (∀ i, i < n + 1 → _) := Lib.hid (fun i h => cell_kept (HC.out i h) hd)
          replace hB := Nat.lt_of_lt_of_le hB hd.size
          replace hb := hb.trans (hd.mono hb.size)
          clear hd cl HS2
          have HQC : Hid (∀ i (h : i < (splitL 32 L).length), w3.cell? ⟨g3, i, none⟩ = some (.string (mkB (splitL 32 L)[i]))) := Lib.hid (fun i h => by
            have h2 : i < ((splitL 32 L).map mkB).length := by rw [List.length_map]; omega
            have := own_cells (enc := Tx.enc) (fun _ => rfl) ho3 rfl (i := i) h2 (j := 0) (v := .string (mkB (splitL 32 L)[i])) (by rw [List.getElem_map]; rfl)
            simpa using this)
          clear ho3
          rw [List.length_map]
          generalize hQ : splitL 32 L = Q at *
          have HQ2 := Lib.hid hQ
          clear hQ
          by_cases h2 : Q.length = 2
          · obtain ⟨y, x, rfl⟩ : ∃ y x, Q = [y, x] := by
              match Q, h2 with
              | [y, x], _ => exact ⟨y, x, rfl⟩
              | [], h => simp at h
              | [_], h => simp at h
              | _ :: _ :: _ :: _, h => simp at h
            have q0 : w3.cell? ⟨g3, 0, none⟩ = some (.string (mkB y)) := HQC.out 0 (by simp)
            have q1 : w3.cell? ⟨g3, 1, none⟩ = some (.string (mkB x)) := HQC.out 1 (by simp)
            have hfx := HLQ.out x (by simp)
            have hfy := HLQ.out y (by simp)
            have HX : Hid (∀ W, Calls Tryz.prog 38 #[.string (mkB x)] W (NumPost (specNum x) W)) := Lib.hid (fun W => by have := l01Number_any (mkB x) W hfx; rw [mkB_data] at this; exact this)
            have HSL := Lib.hid (specLine_two HQ2.out)
            clear h2 hQ0 hQb HQC HLQ hfx
            generalize specNum x = ox at *
            go_wp2_with fail
            refine (HX.out _).mono ?_
            rintro e w4 ⟨rfl, hd⟩
            replace V0 := Lib.hid (V0.out.kept hd)
            replace V1 := Lib.hid (V1.out.kept hd)
            replace HO := Lib.hid (own_below HO.out hd)
            replace HC : Hid (∀ i, i < n + 1 → _) := Lib.hid (fun i h => cell_kept (HC.out i h) hd)
            replace hB := Nat.lt_of_lt_of_le hB hd.size
            replace hb := hb.trans (hd.mono hb.size)
            replace q0 := cell_kept q0 hd
            clear hd q1 HX
            cases ox with
            | none =>
              have HN : Hid (specClub s.data.toList = none) := Lib.hid (by rw [HGO.out, HNO2.out HSL.out])
              clear q0
              have d0 := V0.out.cell (i := 0) rfl
              have f0 := V0.out.free 0
              obtain ⟨o0, g0⟩ := V0.out.set 0 (.slice none 0 0)
              have hb9 := hb.trans (below_row2 g0 (Nat.le_refl _) hb.size)
              have e0 := o0.cell (i := 0) (v := .slice none 0 0) rfl
              clear o0 g0
              go_wp2
              refine bodyPost_ret (v := .tuple #[.agg #[.slice none 0 0], .bool false]) (by simp [results, Tryz.results9, go_sem, e0]) rfl ?_
              rw [HN.out]
              exact ⟨none, 0, rfl, by simpa using World.ownsRow_nil _ w.heap.size 53 2, hb9⟩
            | some m =>
              simp only [Option.getD_some, Option.isSome_some]
              have HM2 := Lib.hid (HSN2.out _ HSL.out)
              have HF2 : Hid (MemsFit (ms ++ [⟨mkB y, m⟩])) := Lib.hid (fun z hz => by
                rcases List.mem_append.1 hz with hz | hz
                · exact HF.out z hz
                · rw [List.mem_singleton] at hz
                  subst hz
                  show (mkB y).size ≤ _
                  omega)
              clear HM HF HSN2 HNO2 HSL
              go_upto_region 12 with fail
              have hd : Below w4.heap.size w4 w4.drew := (Below.refl _ _).drew
              have n1 := World.new_ne w4 _ (V1.out.cell (i := 0) rfl)
              have c1 := V1.out.cell (i := 0) rfl
              have l1 := V1.out.lt
              replace V0 := Lib.hid (V0.out.kept hd)
              replace V1 := Lib.hid (V1.out.kept hd)
              replace HO := Lib.hid (own_below HO.out hd)
              replace HC : Hid (∀ i, i < n + 1 → _) := Lib.hid (fun i h => cell_kept (HC.out i h) hd)
              replace hB := Nat.lt_of_lt_of_le hB hd.size
              replace hb := hb.trans (hd.mono hb.size)
              clear hd
              go_region_law
                (((first | refine step_new_drew ?_ | refine step_new ?_); intro wz hxz hnz hoz; have nb0 := hnz.1 0 _ rfl; have nb1 := hnz.1 1 _ rfl; replace V0 := Lib.hid (V0.out.kept hxz); replace V1 := Lib.hid (V1.out.kept hxz); replace HO := Lib.hid (own_below HO.out hxz); replace HC : Hid (∀ i, i < n + 1 → _) := Lib.hid (fun i h => cell_kept (HC.out i h) hxz); replace hB := Nat.lt_of_lt_of_le hB hxz.size; replace hb := hb.trans (hxz.mono hb.size); replace c1 := V1.out.cell (i := 0) rfl; clear hxz hnz hoz; refine step_append_lies _ ?_ (.tmp 57) (.tmp 63) 24 ?_ (B1 + 1) 53 i0 (.agg #[.string ⟨#[]⟩, .int .i64 0]) 2 24 Tryz.underlying24 hi0 hz0 hz1 hz2 rfl (by decide) (.slice a ms.length cp) ms.length (ms.flatMap Mem.enc) ?_ HO.out ⟨_, 0, none⟩ 1 1 (Mem.enc ⟨mkB y, m⟩) ?_ rfl (news2 nb0 nb1) (mem_one3 ⟨mkB y, m⟩) (by decide) ?_ ?_ (Nat.succ_le_of_lt hB) _ rfl ?_; (all_goals (first | rfl | (unfold maxLen; omega) | omega | skip)); intro g5 cap5 w5 ho5 hg5 hat5 hlt5; have hz5 := hg5.size; replace V0 := Lib.hid (V0.out.grown hg5 (own_ne HO.out (by omega))); have NE := Lib.hid (ne_behind (n := ms.length + 1) (cap := cap5) hat5 (own_ne HO.out (Nat.lt_succ_self B1)) V1.out.lt); replace V1 := Lib.hid (V1.out.grown hg5 (own_ne HO.out (Nat.lt_succ_self B1))); replace HC : Hid (∀ i, i < n + 1 → _) := Lib.hid (fun i h => hg5.cell (HC.out i h) (own_ne (G := g) HO.out (by omega))); replace hb := hb.grown hg5 hb.size (fun k hk => by have := (HO.out.lt k hk).1; omega); replace HO := Lib.hid (own_as ho5 (flat_snoc Mem.enc ms ⟨mkB y, m⟩)); have f1 := V1.out.free 0; replace c1 := V1.out.cell (i := 0) rfl; clear ho5 hg5 hat5 hlt5))
              all_goals
                obtain ⟨o8, g8⟩ := V1.out.set 0 (.slice (some ⟨g5, 0, none⟩) (ms.length + 1) cap5)
                have hz8 := g8.size
                have W0 := Lib.hid (V0.out.grown g8 (by simp; omega))
                have WO := Lib.hid (HO.out.kept g8 (.inr NE.out.symm))
                have WC : Hid (∀ i, i < n + 1 → _) := Lib.hid (fun i h => g8.cell (HC.out i h) (by simp; omega))
                have Wb := hb.trans (below_row2 g8 (by omega) hb.size)
                have W1 := Lib.hid o8
                have HL : Hid ((ms ++ [(⟨mkB y, m⟩ : Mem)]).length = ms.length + 1) := Lib.hid (by simp)
                have hBz : B1 < (w5.setCell ⟨B1, 0, none⟩ (.slice (some ⟨g5, 0, none⟩) (ms.length + 1) cap5)).heap.size := by omega
                clear o8 g8 n1 q0 NE V0 V1 HO HC hb
                go_wp2
                go_roundw
                case rel =>
                  refine ⟨ms.length + 1, some ⟨g5, 0, none⟩, cap5, ms ++ [⟨mkB y, m⟩], by omega, by go_num, HL.out, hBz, HM2, HF2, W0, ?_, ?_, WC, Wb⟩
                  · rw [HL.out]; exact W1
                  · rw [HL.out]; exact WO
                case measure => simp [intOf]; omega
          · obtain ⟨k, hk⟩ : ∃ k, Q.length = k + 1 := ⟨Q.length - 1, by omega⟩
            have hk2 : ((k : Int) + 1 == 2) = false := beq_eq_false_iff_ne.2 (by omega)
            have HNX : Hid (specLine L = none) := Lib.hid (specLine_other (by rw [HQ2.out]; exact h2))
            have HN : Hid (specClub s.data.toList = none) := Lib.hid (by rw [HGO.out, HNO2.out HNX.out])
            have hfx := HLQ.out (Q[k]'(by omega)) (List.getElem_mem _)
            have HX : Hid (∀ W, Calls Tryz.prog 38 #[.string (mkB (Q[k]'(by omega)))] W (NumPost (specNum (Q[k]'(by omega))) W)) := Lib.hid (fun W => by have := l01Number_any (mkB (Q[k]'(by omega))) W hfx; rw [mkB_data] at this; exact this)
            have qk := HQC.out k (by omega)
            have hkb : k ≤ 1048576 := by omega
            generalize Q[k]'(by omega) = x at *
            generalize specNum x = ox at *
            rw [hk]
            clear h2 hQ0 hQb HQC HLQ hfx hk
            go_wp2_with fail
            refine (HX.out _).mono ?_
            rintro e w4 ⟨rfl, hd⟩
            replace V0 := Lib.hid (V0.out.kept hd)
            replace V1 := Lib.hid (V1.out.kept hd)
            replace HO := Lib.hid (own_below HO.out hd)
            replace HC : Hid (∀ i, i < n + 1 → _) := Lib.hid (fun i h => cell_kept (HC.out i h) hd)
            replace hB := Nat.lt_of_lt_of_le hB hd.size
            replace hb := hb.trans (hd.mono hb.size)
            clear hd qk HX
            cases ox with
            | none =>
              have d0 := V0.out.cell (i := 0) rfl
              have f0 := V0.out.free 0
              obtain ⟨o0, g0⟩ := V0.out.set 0 (.slice none 0 0)
              have hb9 := hb.trans (below_row2 g0 (Nat.le_refl _) hb.size)
              have e0 := o0.cell (i := 0) (v := .slice none 0 0) rfl
              clear o0 g0
              go_wp2
              refine bodyPost_ret (v := .tuple #[.agg #[.slice none 0 0], .bool false]) (by simp [results, Tryz.results9, go_sem, e0]) rfl ?_
              rw [HN.out]
              exact ⟨none, 0, rfl, by simpa using World.ownsRow_nil _ w.heap.size 53 2, hb9⟩
            | some m =>
              simp only [Option.getD_some, Option.isSome_some]
              have d0 := V0.out.cell (i := 0) rfl
              have f0 := V0.out.free 0
              obtain ⟨o0, g0⟩ := V0.out.set 0 (.slice none 0 0)
              have hb9 := hb.trans (below_row2 g0 (Nat.le_refl _) hb.size)
              have e0 := o0.cell (i := 0) (v := .slice none 0 0) rfl
              clear o0 g0
              go_wp2
              refine bodyPost_ret (v := .tuple #[.agg #[.slice none 0 0], .bool false]) (by simp [results, Tryz.results9, go_sem, e0]) rfl ?_
              rw [HN.out]
              exact ⟨none, 0, rfl, by simpa using World.ownsRow_nil _ w.heap.size 53 2, hb9⟩
        · obtain rfl : ms.length = n := by omega
          have HL9 := Lib.hid (show (ms.length : Int) ≤ 1048576 by omega)
          have c1 := V1.out.cell (i := 0) rfl
          have hO := own_slice Mem.enc_len HO.out rfl
          cases hco : clubOk ms with
          | false =>
            have HN : Hid (specClub s.data.toList = none) := Lib.hid (by rw [HGO.out, HM.out]; exact if_neg (by rw [hco]; exact Bool.false_ne_true))
            go_wp2_with fail
            refine (l26Ok_any ms _ 0 a cp _ c1 hO (by omega) HF.out).mono ?_
            rintro e w5 ⟨rfl, hdd⟩
            rw [hco]
            have hd := hdd.below wr.heap.size
            replace V0 := Lib.hid (V0.out.kept hd)
            replace hb := hb.trans (hd.mono hb.size)
            clear hco hdd hd hO c1
            have d0 := V0.out.cell (i := 0) rfl
            have f0 := V0.out.free 0
            obtain ⟨o0, g0⟩ := V0.out.set 0 (.slice none 0 0)
            have hb9 := hb.trans (below_row2 g0 (Nat.le_refl _) hb.size)
            have e0 := o0.cell (i := 0) (v := .slice none 0 0) rfl
            clear o0 g0
            go_wp2
            refine bodyPost_ret (v := .tuple #[.agg #[.slice none 0 0], .bool false]) (by simp [results, Tryz.results9, go_sem, e0]) rfl ?_
            rw [HN.out]
            exact ⟨none, 0, rfl, by simpa using World.ownsRow_nil _ w.heap.size 53 2, hb9⟩
          | true =>
            have HN : Hid (specClub s.data.toList = some ms) := Lib.hid (by rw [HGO.out, HM.out]; exact if_pos hco)
            go_wp2_with fail
            refine (l26Ok_any ms _ 0 a cp _ c1 hO (by omega) HF.out).mono ?_
            rintro e w5 ⟨rfl, hdd⟩
            rw [hco]
            have hd := hdd.below wr.heap.size
            replace V0 := Lib.hid (V0.out.kept hd)
            replace V1 := Lib.hid (V1.out.kept hd)
            replace HO := Lib.hid (own_below HO.out hd)
            replace hb := hb.trans (hd.mono hb.size)
            clear hco hdd hd hO c1
            have c1 := V1.out.cell (i := 0) rfl
            have d0 := V0.out.cell (i := 0) rfl
            have f0 := V0.out.free 0
            obtain ⟨o0, g0⟩ := V0.out.set 0 (.slice a ms.length cp)
            have hb9 := hb.trans (below_row2 g0 (Nat.le_refl _) hb.size)
            have e0 := o0.cell (i := 0) (v := .slice a ms.length cp) rfl
            have O9 := Lib.hid (own_mono (HO.out.kept g0 (.inr (own_en HO.out (by omega)))) (show w.heap.size ≤ B1 + 1 by omega))
            clear o0 g0
            go_wp2
            refine bodyPost_ret (v := .tuple #[.agg #[.slice a ms.length cp], .bool true]) (by simp [results, Tryz.results9, go_sem, e0]) rfl ?_
            rw [HN.out]
            exact ⟨a, cp, rfl, O9.out, hb9⟩
    · have hlt : (13 : Int) < (n : Int) + 1 := by omega
      have HN := Lib.hid (specClub_many (l := s.data.toList) (by rw [HP.out]; omega))
      have d0 := V0.out.cell (i := 0) rfl
      have f0 := V0.out.free 0
      obtain ⟨o0, g0⟩ := V0.out.set 0 (.slice none 0 0)
      have hb9 := hb.trans (below_row2 g0 (Nat.le_refl _) hb.size)
      have e0 := o0.cell (i := 0) (v := .slice none 0 0) rfl
      clear o0 g0
      go_wp2
      refine bodyPost_ret (v := .tuple #[.agg #[.slice none 0 0], .bool false]) (by simp [results, Tryz.results9, go_sem, e0]) rfl ?_
      rw [HN.out]
      exact ⟨none, 0, rfl, by simpa using World.ownsRow_nil _ w.heap.size 53 2, hb9⟩
  · have HN := Lib.hid (specClub_last HP.out (HCN.out _ rfl) hqe)
    have hne : (mkB q).toList.isEmpty = false := by
      rw [mkB_list]
      cases q with
      | nil => exact absurd rfl hqe
      | cons c b => rfl
    clear hq HCN
    have d0 := V0.out.cell (i := 0) rfl
    have f0 := V0.out.free 0
    obtain ⟨o0, g0⟩ := V0.out.set 0 (.slice none 0 0)
    have hb9 := hb.trans (below_row2 g0 (Nat.le_refl _) hb.size)
    have e0 := o0.cell (i := 0) (v := .slice none 0 0) rfl
    clear o0 g0
    go_wp2
    refine bodyPost_ret (v := .tuple #[.agg #[.slice none 0 0], .bool false]) (by simp [results, Tryz.results9, go_sem, e0]) rfl ?_
    rw [HN.out]
    exact ⟨none, 0, rfl, by simpa using World.ownsRow_nil _ w.heap.size 53 2, hb9⟩
end Go.Proofs.YtlbnjdgfggiifaaGreatDoor
