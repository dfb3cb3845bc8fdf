/- Contract: the program's club of a text. Leans on Go's tables and on strconv's two errors as they are laid. For every text of at most 2^20 bytes. -/
import Derived.Test.YtlbnjdgfggiifaaGreatDoorDoG
import Derived.Test.YtlbnjdgfggiifaaGreatDoorDoF
import Derived.Test.YtlbnjdgfggiifaaGreatDoorDoC
namespace Go.Proofs.YtlbnjdgfggiifaaGreatDoor
open Go.ChangeShapes Go.WideShapes Go.ChangeAt Go.RowKit Go.Sort

theorem cut_one (c : UInt8) (l : List UInt8) : (Lib.cut l [c]).1 = (cutL c l).1 ∧ (Lib.cut l [c]).2.1 = (cutL c l).2 := by
  induction l with
  | nil => exact ⟨rfl, rfl⟩
  | cons b l ih =>
    unfold Lib.cut at ih ⊢
    by_cases hb : b = c
    · subst hb
      have e : Lib.index (b :: l) [b] = 0 := by unfold Lib.index; exact if_pos (show (b == b && List.isPrefixOf [] l) = true by simp)
      rw [e, if_pos (by decide), cutL, if_pos rfl]
      exact ⟨rfl, rfl⟩
    · have hp : ([c].isPrefixOf (b :: l)) = false := by
        show (c == b && List.isPrefixOf [] l) = false
        rw [beq_eq_false_iff_ne.2 (fun e => hb e.symm)]
        rfl
      have e : Lib.index (b :: l) [c] = if Lib.index l [c] == -1 then -1 else Lib.index l [c] + 1 := by
        conv => lhs; unfold Lib.index
        rw [hp]
        rfl
      rw [cutL, if_neg hb]
      have hge := Lib.index_ge l [c]
      by_cases hi : 0 ≤ Lib.index l [c]
      · obtain ⟨k, hk⟩ : ∃ k : Nat, Lib.index l [c] = k := ⟨(Lib.index l [c]).toNat, by omega⟩
        rw [if_pos hi] at ih
        have e2 : Lib.index (b :: l) [c] = (k : Int) + 1 := by rw [e, hk]; exact if_neg (by first | (simp; done) | (simp; omega))
        rw [e2, if_pos (by omega)]
        rw [hk] at ih
        obtain ⟨i1, i2⟩ := ih
        simp only [Int.toNat_natCast] at i1 i2
        have e1 : ((k : Int) + 1).toNat = k + 1 := by omega
        rw [e1, ← i1, ← i2]
        exact ⟨rfl, rfl⟩
      · have h1 : Lib.index l [c] = -1 := by omega
        rw [if_neg hi] at ih
        rw [e, h1]
        obtain ⟨i1, i2⟩ := ih
        rw [← i1, ← i2]
        exact ⟨rfl, rfl⟩
theorem suffix_one (c : UInt8) (l : List UInt8) : Lib.hasSuffix l [c] = (l.getLast? == some c) := by
  unfold Lib.hasSuffix List.isSuffixOf
  rw [List.getLast?_eq_head?_reverse]
  cases l.reverse with
  | nil => rfl
  | cons b r =>
    show (c == b && List.isPrefixOf [] r) = (some b == some c)
    rw [show List.isPrefixOf [] r = true from by cases r <;> rfl, Bool.and_true, Bool.eq_iff_iff]
    simp only [beq_iff_eq, Option.some.injEq]
    exact eq_comm
theorem trim_one (c : UInt8) (l : List UInt8) : Lib.trimSuffix l [c] = if l.getLast? = some c then l.dropLast else l := by
  unfold Lib.trimSuffix
  rw [suffix_one, List.dropLast_eq_take]
  simp
theorem lines_len {l : List UInt8} : ∀ x ∈ (linesL l).1, x.length ≤ l.length := by
  intro x hx
  unfold linesL at hx
  split at hx
  · cases hx
  · split at hx
    · have := split_len_le x hx; rw [List.length_dropLast] at this; omega
    · exact split_len_le x hx
theorem lines_count (l : List UInt8) : (linesL l).1.length ≤ l.length + 1 := by
  unfold linesL
  split
  · simp
  · split
    · rw [splitL_len]; have := List.count_le_length (a := (10 : UInt8)) (l := l.dropLast); rw [List.length_dropLast] at this; omega
    · rw [splitL_len]; have := List.count_le_length (a := (10 : UInt8)) (l := l); omega
theorem readClub_of (l : List UInt8) : readClub l = if (linesL l).2 = false ∨ 12 < (linesL l).1.length then none
  else match mapO implLine (linesL l).1 with
    | none => none
    | some ms => if clubOk ms = true ∧ clubL ms = l then some ms else none := rfl
theorem cutL_len (c : UInt8) (l : List UInt8) : (cutL c l).1.length ≤ l.length ∧ (cutL c l).2.length ≤ l.length := by
  induction l with
  | nil => simp [cutL]
  | cons b l ih =>
    unfold cutL
    split
    · simp
    · simp only [List.length_cons]; omega
/-- lines that were read, and whether the last one is ended -/
def LinesPost (w : World) (xs : List ByteArray) (b : Bool) (e : Ending) (w' : World) : Prop :=
  ∃ g cap, e = .returned (.tuple #[.slice (some ⟨g, 0, none⟩) xs.length cap, .bool b]) ∧ w'.ownsRow w.heap.size 9 1 (.slice (some ⟨g, 0, none⟩) xs.length cap) xs.length (xs.flatMap Tx.enc) ∧ Below w.heap.size w w'
theorem cut_any (s : ByteArray) (w : World) (he : Env w) (hs : s.size ≤ 1048576) : Calls Tryz.prog 32 #[.string s, .string ⟨#[32]⟩] w fun e w' => (∃ b, e = .returned (.tuple #[.string (mkB (cutL 32 s.data.toList).1), .string (mkB (cutL 32 s.data.toList).2), .bool b])) ∧ Below w.heap.size w w' := by
  obtain ⟨_, ⟨m, hm⟩, _, _⟩ := he
  refine (Any.strings_Cut { Tryz.laysM145 with } s ⟨#[32]⟩ m w (by omega) hm).mono ?_
  rintro e w' ⟨rfl, k, rfl⟩
  obtain ⟨h1, h2⟩ := cut_one 32 s.data.toList
  refine ⟨⟨(Lib.cut s.data.toList [32]).2.2, ?_⟩, Drew.below ⟨k, rfl⟩ _⟩
  rw [← h1, ← h2]
  rfl
set_option maxRecDepth 100000 in
set_option maxHeartbeats 2000000 in
theorem linesOf_any (s : ByteArray) (w : World) (he : Env w) (hs : s.size ≤ 1048576) : Calls Tryz.prog 31 #[.string s] w (LinesPost w ((linesL s.data.toList).1.map mkB) (linesL s.data.toList).2) := by
  have hsl : s.data.toList.length = s.size := Array.length_toList
  by_cases h0 : s.size < 1
  · have hl : s.data.toList = [] := List.length_eq_zero_iff.1 (by omega)
    have hse : s.toList = [] := by rw [ByteArray.toList_eq, hl]
    have HN : Hid (linesL s.data.toList = ([], true)) := Lib.hid (by rw [hl]; rfl)
    have HO := Lib.hid (World.ownsRow_made (base := w.heap.size) (e := 9) (size := 1) w #[] 0 (Nat.le_refl _) (by unfold maxLen; omega) rfl)
    clear hl hsl
    go_enter Tryz.func31, Tryz.ntmps31
    go_wp2
    go_ret2
    rw [HN.out]
    exact ⟨_, _, rfl, HO.out, (Below.refl _ _).alloc (Nat.le_refl _) _⟩
  · have hne : s.toList.isEmpty = false := ba_full h0
    have hl : s.data.toList ≠ [] := fun e => by rw [e] at hsl; simp at hsl; omega
    have HE := Lib.hid he
    have HCS := Lib.hid (Tryz.strings_CutSuffix s ⟨#[10]⟩ w (by omega))
    have e1 : Lib.hasSuffix s.data.toList [10] = (linesL s.data.toList).2 := by
      rw [suffix_one]
      unfold linesL
      rw [if_neg hl]
      split
      · rename_i h; rw [h]; rfl
      · rename_i h; simpa using h
    have e2 : splitL 10 (Lib.trimSuffix s.data.toList [10]) = (linesL s.data.toList).1 := by
      rw [trim_one]
      unfold linesL
      rw [if_neg hl]
      split <;> rfl
    have e3 : (Lib.trimSuffix s.data.toList [10]).length ≤ s.size := by
      rw [trim_one]
      split
      · rw [List.length_dropLast]; omega
      · omega
    have HSP : Hid (∀ W, Env W → Calls Tryz.prog 42 #[.string (mkB (Lib.trimSuffix s.data.toList [10])), .string ⟨#[10]⟩] W (TextsPost W ((linesL s.data.toList).1.map mkB))) := Lib.hid (fun W h => by
      have := split_any (mkB (Lib.trimSuffix s.data.toList [10])) 10 W h (by rw [mkB_size]; omega)
      rw [mkB_data, e2] at this
      exact this)
    have HB := Lib.hid e1
    clear hl hsl e1 e2 e3 he
    go_enter Tryz.func31, Tryz.ntmps31
    go_wp2_with fail
    refine HCS.out.mono ?_
    rintro e w' ⟨rfl, rfl⟩
    generalize hT : Lib.trimSuffix s.data.toList (⟨#[10]⟩ : ByteArray).data.toList = T at *
    have hT2 : Lib.trimSuffix s.data.toList [10] = T := hT
    have hH : Lib.hasSuffix s.data.toList (⟨#[10]⟩ : ByteArray).data.toList = (linesL s.data.toList).2 := HB.out
    rw [hH]
    clear hT hT2 hH HB
    have hmk : mkB T = ⟨T.toArray⟩ := rfl
    rw [hmk] at HSP
    clear hmk
    generalize (⟨T.toArray⟩ : ByteArray) = t at *
    generalize (linesL s.data.toList).2 = lb at *
    generalize (linesL s.data.toList).1.map mkB = xs at *
    go_wp2_with fail
    refine (HSP.out _ HE.out).mono ?_
    rintro e w2 ⟨g, cap, rfl, ho, hd⟩
    go_wp2
    go_ret2
    exact ⟨g, cap, rfl, ho, hd⟩
set_option maxRecDepth 100000 in
set_option maxHeartbeats 8000000 in
theorem ReadClub_any (s : ByteArray) (w : World) (he : Env w) (hs : s.size ≤ 1048576) : Calls Tryz.prog 7 #[.string s] w (ClubRead (readClub s.data.toList) w) := by
  obtain ⟨i0, hi0, hz0, hz1, hz2⟩ := info_parts infoMember
  have hb : Below w.heap.size w (w.alloc (.cells #[.slice none 0 0] 26)) := (Below.refl _ _).alloc (Nat.le_refl _) _
  have V0 := Lib.hid (VarAt.new w 26 [.slice none 0 0])
  have HENV := Lib.hid he
  have HSP : Hid (∀ W, Env W → Calls Tryz.prog 31 #[.string s] W (LinesPost W ((linesL s.data.toList).1.map mkB) (linesL s.data.toList).2)) := Lib.hid (fun W h => linesOf_any s W h hs)
  have hsl : s.data.toList.length = s.size := Array.length_toList
  have HLE : Hid (∀ x ∈ (linesL s.data.toList).1, x.length ≤ 1048576) := Lib.hid (fun x hx => by have := lines_len x hx; omega)
  have hnb : (linesL s.data.toList).1.length ≤ 1048577 := by have := lines_count s.data.toList; omega
  have HRD := Lib.hid (readClub_of s.data.toList)
  clear hsl he
  generalize linesL s.data.toList = p at *
  obtain ⟨P, lb⟩ := p
  simp only at HSP HLE hnb HRD
  go_enter Tryz.func7, Tryz.ntmps7
  go_wp2_with fail
  refine (HSP.out _ (HENV.out.kept hb)).mono ?_
  rintro e w2 ⟨g, cap, rfl, ho, hd⟩
  replace V0 := Lib.hid (V0.out.kept hd)
  have hgB : w.heap.size + 1 ≤ g := by have := (ho.lt g rfl).1; simpa using this
  replace hb := hb.trans (hd.mono hb.size)
  have hgl := (ho.lt g rfl).2
  clear hd HSP
  rw [List.length_map]
  have HP : Hid (∀ i (h : i < P.length), w2.cell? ⟨g, i, none⟩ = some (.string (mkB P[i]))) := Lib.hid (fun i h => by
    have h2 : i < (P.map mkB).length := by rw [List.length_map]; omega
    have := own_cells (enc := Tx.enc) (fun _ => rfl) ho rfl (i := i) h2 (j := 0) (v := .string (mkB P[i])) (by rw [List.getElem_map]; rfl)
    simpa using this)
  clear ho
  cases lb with
  | false =>
    have HN : Hid (readClub s.data.toList = none) := Lib.hid (by rw [HRD.out]; exact if_pos (.inl rfl))
    have d0 := V0.out.cell (i := 0) rfl
    have f0 := V0.out.free 0
    obtain ⟨o0, g0⟩ := V0.out.set 0 (.slice none 0 0)
    have hb9 := hb.trans (below_row2 g0 (Nat.le_refl _) hb.size)
    have e0 := o0.cell (i := 0) (v := .slice none 0 0) rfl
    clear o0 g0
    go_wp2
    refine bodyPost_ret (v := .tuple #[.agg #[.slice none 0 0], .bool false]) (by simp [results, Tryz.results7, go_sem, e0]) rfl ?_
    rw [HN.out]
    exact ⟨none, 0, rfl, by simpa using World.ownsRow_nil _ w.heap.size 53 2, hb9⟩
  | true =>
    by_cases h12 : P.length ≤ 12
    · have hlt : ¬ (12 : Int) < (P.length : Int) := by omega
      have HGO : Hid (readClub s.data.toList = match mapO implLine P with
        | none => none
        | some ms => if clubOk ms = true ∧ clubL ms = s.data.toList then some ms else none) := Lib.hid (by rw [HRD.out]; exact if_neg (by simp; omega))
      obtain ⟨n, hn⟩ : ∃ n, P.length = n := ⟨_, rfl⟩
      rw [hn]
      rw [hn] at h12 hlt hnb
      have HNL := Lib.hid hn
      clear hn HRD
      have hx : Below w2.heap.size w2 (w2.alloc (.cells #[.slice none 0 0] 26)) := (Below.refl _ _).alloc (Nat.le_refl _) _
      have V1 := Lib.hid (VarAt.new w2 26 [.slice none 0 0])
      replace V0 := Lib.hid (V0.out.kept hx)
      replace hb := hb.trans (hx.mono hb.size)
      have HC : Hid (∀ i, i < n → (w2.alloc (.cells #[.slice none 0 0] 26)).cell? ⟨g, i, none⟩ = some (.string (mkB (P.getD i [])))) := Lib.hid (fun i h => by
        have := cell_kept (HP.out i (by rw [HNL.out]; exact h)) hx
        rw [List.getD_eq_getElem?_getD, List.getElem?_eq_getElem (by rw [HNL.out]; exact h)]
        exact this)
      have HLG : Hid (∀ i, i < n → P.getD i [] ∈ P) := Lib.hid (fun i h => by rw [List.getD_eq_getElem?_getD, List.getElem?_eq_getElem (by rw [HNL.out]; exact h)]; exact List.getElem_mem _)
      have HSN : Hid (∀ k ms m, k < n → mapO implLine (P.take k) = some ms → implLine (P.getD k []) = some m → mapO implLine (P.take (k + 1)) = some (ms ++ [m])) := Lib.hid (fun k ms m h h1 h2 => mapO_snoc (by rw [HNL.out]; exact h) h1 (by rw [List.getD_eq_getElem?_getD, List.getElem?_eq_getElem (by rw [HNL.out]; exact h)] at h2; exact h2))
      have HNO : Hid (∀ k, k < n → implLine (P.getD k []) = none → mapO implLine P = none) := Lib.hid (fun k h h1 => mapO_none (HLG.out k h) h1)
      have HTK : Hid (P.take n = P) := Lib.hid (List.take_of_length_le (by rw [HNL.out]; exact Nat.le_refl _))
      clear hx HP
      go_upto_region 6 with fail
      generalize w2.alloc (.cells #[.slice none 0 0] 26) = W3 at *
      generalize w2.heap.size = B1 at *
      go_loopw [30] (fun iv wr => ∃ (i : Nat) (a : Option Addr) (cp : Nat) (ms : List Mem), i ≤ n ∧ iv = .int .i64 i ∧ ms.length = i ∧ B1 < wr.heap.size ∧ Hid (mapO implLine (P.take i) = some ms) ∧ Hid (MemsFit ms) ∧ Hid (VarAt wr w.heap.size 26 [.slice none 0 0]) ∧ Hid (VarAt wr B1 26 [.slice a ms.length cp]) ∧
        Hid (wr.ownsRow (B1 + 1) 53 2 (.slice a ms.length cp) ms.length (ms.flatMap Mem.enc)) ∧ Hid (∀ i, i < n → wr.cell? ⟨g, i, none⟩ = some (.string (mkB (P.getD i [])))) ∧ Below w.heap.size w wr) (fun iv _ => n - (intOf iv).toNat)
      case atStart => exact ⟨0, none, 0, [], by omega, rfl, rfl, V1.out.lt, Lib.hid rfl, Lib.hid (fun m hm => by cases hm), V0, V1, Lib.hid (World.ownsRow_nil _ _ _ _), HC, hb⟩
      case round =>
        clear V0 V1 HC hb
        obtain ⟨i, a, cp, ms, hi, rfl, rfl, hB, HM, HF, V0, V1, HO, HC, hb⟩ := hrel
        by_cases hlt2 : ms.length < n
        · have cl := HC.out ms.length hlt2
          have hfl := HLE.out _ (HLG.out ms.length hlt2)
          have HNO2 := Lib.hid (HNO.out ms.length hlt2)
          have HSN2 := Lib.hid (fun m => HSN.out ms.length ms m hlt2 HM.out)
          generalize P.getD ms.length [] = L at *
          have HCT : Hid (∀ W, Env W → Calls Tryz.prog 32 #[.string (mkB L), .string ⟨#[32]⟩] W fun e w' => (∃ b, e = .returned (.tuple #[.string (mkB (cutL 32 L).1), .string (mkB (cutL 32 L).2), .bool b])) ∧ Below W.heap.size W w') := Lib.hid (fun W h => by have := cut_any (mkB L) W h (by rw [mkB_size]; exact hfl); rw [mkB_data] at this; exact this)
          obtain ⟨f1, f2⟩ := cutL_len 32 L
          have hf1 : (mkB (cutL 32 L).1).size ≤ 1048576 := by rw [mkB_size]; omega
          have hf2 : (mkB (cutL 32 L).2).size ≤ 1048576 := by rw [mkB_size]; omega
          have HX : Hid (∀ W, Env W → Calls Tryz.prog 33 #[.string (mkB (cutL 32 L).2)] W (NumPost (readDec (cutL 32 L).2) W)) := Lib.hid (fun W h => by have := ReadDecimal_any (mkB (cutL 32 L).2) W h hf2; rw [mkB_data] at this; exact this)
          have HSL : Hid (implLine L = (readDec (cutL 32 L).2).map fun n => ⟨mkB (cutL 32 L).1, n⟩) := Lib.hid rfl
          clear hfl f1 f2 hf2
          generalize (cutL 32 L).1 = y at *
          generalize (cutL 32 L).2 = x at *
          generalize readDec x = ox at *
          go_wp2_with fail
          refine (HCT.out _ (HENV.out.kept hb)).mono ?_
          rintro e w3 ⟨⟨b3, rfl⟩, hd⟩
          replace V0 := Lib.hid (V0.out.kept hd)
          replace V1 := Lib.hid (V1.out.kept hd)
          replace HO := Lib.hid (own_below HO.out hd)
          replace HC : Hid (∀ i, i < n → _) := Lib.hid (fun i h => cell_kept (HC.out i h) hd)
          replace hB := Nat.lt_of_lt_of_le hB hd.size
          replace hb := hb.trans (hd.mono hb.size)
          clear hd cl HCT
          go_wp2_with fail
          refine (HX.out _ (HENV.out.kept hb)).mono ?_
          rintro e w4 ⟨rfl, hd⟩
          replace V0 := Lib.hid (V0.out.kept hd)
          replace V1 := Lib.hid (V1.out.kept hd)
          replace HO := Lib.hid (own_below HO.out hd)
          replace HC : Hid (∀ i, i < n → _) := Lib.hid (fun i h => cell_kept (HC.out i h) hd)
          replace hB := Nat.lt_of_lt_of_le hB hd.size
          replace hb := hb.trans (hd.mono hb.size)
          clear hd HX
          cases ox with
          | none =>
            have HN : Hid (readClub s.data.toList = none) := Lib.hid (by rw [HGO.out, HNO2.out HSL.out])
            have d0 := V0.out.cell (i := 0) rfl
            have f0 := V0.out.free 0
            obtain ⟨o0, g0⟩ := V0.out.set 0 (.slice none 0 0)
            have hb9 := hb.trans (below_row2 g0 (Nat.le_refl _) hb.size)
            have e0 := o0.cell (i := 0) (v := .slice none 0 0) rfl
            clear o0 g0
            go_wp2
            refine bodyPost_ret (v := .tuple #[.agg #[.slice none 0 0], .bool false]) (by simp [results, Tryz.results7, go_sem, e0]) rfl ?_
            rw [HN.out]
            exact ⟨none, 0, rfl, by simpa using World.ownsRow_nil _ w.heap.size 53 2, hb9⟩
          | some m =>
            simp only [Option.getD_some, Option.isSome_some]
            have HM2 := Lib.hid (HSN2.out _ HSL.out)
            have HF2 : Hid (MemsFit (ms ++ [⟨mkB y, m⟩])) := Lib.hid (fun z hz => by
              rcases List.mem_append.1 hz with hz | hz
              · exact HF.out z hz
              · rw [List.mem_singleton] at hz
                subst hz
                show (mkB y).size ≤ _
                omega)
            clear HM HF HSN2 HNO2 HSL
            have hx : Below w4.heap.size w4 (w4.alloc (.cells #[.string (mkB y), .int .i64 m] 53)) := (Below.refl _ _).alloc (Nat.le_refl _) _
            have KN : Hid (∀ j u, (Mem.enc ⟨mkB y, m⟩)[j]? = some u → (w4.alloc (.cells #[.string (mkB y), .int .i64 m] 53)).cell? ((⟨w4.heap.size, 0, none⟩ : Addr).add j) = some u) :=
              Lib.hid (news2 (cell_new0 w4 #[.string (mkB y), .int .i64 m] 53 (i := 0) (v := .string (mkB y)) rfl) (cell_new0 w4 #[.string (mkB y), .int .i64 m] 53 (i := 1) (v := .int .i64 m) rfl))
            have c1 := V1.out.cell (i := 0) rfl
            have KO := Lib.hid (own_below HO.out hx)
            replace V0 := Lib.hid (V0.out.kept hx)
            replace V1 := Lib.hid (V1.out.kept hx)
            replace HC : Hid (∀ i, i < n → _) := Lib.hid (fun i h => cell_kept (HC.out i h) hx)
            replace hb := hb.trans (hx.mono hb.size)
            clear HO hx
            go_wp2_with (at_builtin; go_must (refine wpList_append_own _ rfl (.tmp 49) (.tmp 53) 24 rfl (B1 + 1) 53 i0 _ 2 24 Tryz.underlying24 hi0 hz0 hz1 hz2 rfl (by decide) _ ms.length (ms.flatMap Mem.enc) rfl KO.out ⟨w4.heap.size, 0, none⟩ 1 1 (Mem.enc ⟨mkB y, m⟩) rfl rfl KN.out (mem_one3 ⟨mkB y, m⟩) ?c1 ?c2 ?c3 ?_))
            case c1 => unfold maxLen; omega
            case c2 => omega
            case c3 => (first | omega | (simp only [World.size_alloc]; omega))
            intro v' w6 hown6 hgr6 _
            obtain ⟨a6, cap6, rfl⟩ := own_shape hown6
            have hz6 : B1 < w6.heap.size := by have := hgr6.size; simp at this; omega
            have HL : Hid ((ms ++ [(⟨mkB y, m⟩ : Mem)]).length = ms.length + 1) := Lib.hid (by simp)
            replace V0 := Lib.hid (V0.out.grown hgr6 (own_ne KO.out (by omega)))
            replace V1 := Lib.hid (V1.out.grown hgr6 (own_ne KO.out (Nat.lt_succ_self B1)))
            replace HC : Hid (∀ i, i < n → _) := Lib.hid (fun i h => hgr6.cell (HC.out i h) (own_ne (G := g) KO.out (by omega)))
            replace hb := hb.grown hgr6 hb.size (fun k hk => by have := (KO.out.lt k hk).1; omega)
            have HO := Lib.hid (own_as hown6 (flat_snoc Mem.enc ms _))
            clear hown6 hgr6 KO KN
            replace c1 := V1.out.cell (i := 0) rfl
            have f1 := V1.out.free 0
            obtain ⟨o8, g8⟩ := V1.out.set 0 (.slice a6 (ms.length + 1) cap6)
            have hz8 := g8.size
            have W0 := Lib.hid (V0.out.grown g8 (by simp; omega))
            have WO := Lib.hid (HO.out.kept g8 (.inr (own_en HO.out (Nat.lt_succ_self B1))))
            have WC : Hid (∀ i, i < n → _) := Lib.hid (fun i h => g8.cell (HC.out i h) (by simp; omega))
            have Wb := hb.trans (below_row2 g8 (by omega) hb.size)
            have W1 := Lib.hid o8
            have hBz : B1 < (w6.setCell ⟨B1, 0, none⟩ (.slice a6 (ms.length + 1) cap6)).heap.size := by omega
            clear o8 g8 V0 V1 HO HC hb
            go_wp2
            go_roundw
            case rel =>
              refine ⟨ms.length + 1, a6, cap6, ms ++ [⟨mkB y, m⟩], by omega, by go_num, HL.out, hBz, HM2, HF2, W0, ?_, ?_, WC, Wb⟩
              · rw [HL.out]; exact W1
              · rw [HL.out]; exact WO
            case measure => simp [intOf]; omega
        · obtain rfl : ms.length = n := by omega
          have HM2 : Hid (mapO implLine P = some ms) := Lib.hid (by have := HM.out; rw [HTK.out] at this; exact this)
          clear HM
          have c1 := V1.out.cell (i := 0) rfl
          have hO := own_slice Mem.enc_len HO.out rfl
          cases hco : clubOk ms with
          | false =>
            have HN : Hid (readClub s.data.toList = none) := Lib.hid (by rw [HGO.out, HM2.out]; exact if_neg (fun h => by rw [hco] at h; exact absurd h.1 Bool.false_ne_true))
            go_wp2_with fail
            refine (ValidClub_any ms a cp _ hO (by omega) HF.out).mono ?_
            rintro e w5 ⟨rfl, hd⟩
            rw [hco]
            replace V0 := Lib.hid (V0.out.kept hd)
            replace hb := hb.trans (hd.mono hb.size)
            clear hco hd hO c1
            have d0 := V0.out.cell (i := 0) rfl
            have f0 := V0.out.free 0
            obtain ⟨o0, g0⟩ := V0.out.set 0 (.slice none 0 0)
            have hb9 := hb.trans (below_row2 g0 (Nat.le_refl _) hb.size)
            have e0 := o0.cell (i := 0) (v := .slice none 0 0) rfl
            clear o0 g0
            go_wp2
            refine bodyPost_ret (v := .tuple #[.agg #[.slice none 0 0], .bool false]) (by simp [results, Tryz.results7, go_sem, e0]) rfl ?_
            rw [HN.out]
            exact ⟨none, 0, rfl, by simpa using World.ownsRow_nil _ w.heap.size 53 2, hb9⟩
          | true =>
            have HTX := Lib.hid (clubText_ok hco)
            go_wp2_with fail
            refine (ValidClub_any ms a cp _ hO (by omega) HF.out).mono ?_
            rintro e w5 ⟨rfl, hd⟩
            rw [hco]
            replace V0 := Lib.hid (V0.out.kept hd)
            replace V1 := Lib.hid (V1.out.kept hd)
            replace HO := Lib.hid (own_below HO.out hd)
            replace hb := hb.trans (hd.mono hb.size)
            replace c1 := V1.out.cell (i := 0) rfl
            clear hd hO
            have hO := own_slice Mem.enc_len HO.out rfl
            by_cases heq : clubL ms = s.data.toList
            · have HN : Hid (readClub s.data.toList = some ms) := Lib.hid (by rw [HGO.out, HM2.out]; exact if_pos ⟨hco, heq⟩)
              have hq1 : ((mkB (clubL ms)).toList != s.toList) = false := by rw [mkB_list, ByteArray.toList_eq, heq]; simp
              have hq2 : ((mkB (clubL ms)).toList == s.toList) = true := by rw [mkB_list, ByteArray.toList_eq, heq]; simp
              clear hco heq
              go_wp2_with fail
              refine (ClubText_any ms a cp _ hO (by omega) HF.out (HENV.out.kept hb).1).mono ?_
              rintro e w6 ⟨rfl, hd⟩
              rw [HTX.out]
              replace V0 := Lib.hid (V0.out.kept hd)
              replace V1 := Lib.hid (V1.out.kept hd)
              replace HO := Lib.hid (own_below HO.out hd)
              replace hb := hb.trans (hd.mono hb.size)
              replace c1 := V1.out.cell (i := 0) rfl
              clear hd hO
              generalize mkB (clubL ms) = tx at *
              have d0 := V0.out.cell (i := 0) rfl
              have f0 := V0.out.free 0
              obtain ⟨o0, g0⟩ := V0.out.set 0 (.slice a ms.length cp)
              have hb9 := hb.trans (below_row2 g0 (Nat.le_refl _) hb.size)
              have e0 := o0.cell (i := 0) (v := .slice a ms.length cp) rfl
              have O9 := Lib.hid (own_mono (HO.out.kept g0 (.inr (own_en HO.out (by omega)))) (show w.heap.size ≤ B1 + 1 by omega))
              clear o0 g0
              go_wp2
              refine bodyPost_ret (v := .tuple #[.agg #[.slice a ms.length cp], .bool true]) (by simp [results, Tryz.results7, go_sem, e0]) rfl ?_
              rw [HN.out]
              exact ⟨a, cp, rfl, O9.out, hb9⟩
            · have HN : Hid (readClub s.data.toList = none) := Lib.hid (by rw [HGO.out, HM2.out]; exact if_neg (fun h => heq h.2))
              have hq1 : ((mkB (clubL ms)).toList != s.toList) = true := by rw [mkB_list, ByteArray.toList_eq]; simpa using heq
              have hq2 : ((mkB (clubL ms)).toList == s.toList) = false := by rw [mkB_list, ByteArray.toList_eq]; simpa using heq
              clear hco heq
              go_wp2_with fail
              refine (ClubText_any ms a cp _ hO (by omega) HF.out (HENV.out.kept hb).1).mono ?_
              rintro e w6 ⟨rfl, hd⟩
              rw [HTX.out]
              replace V0 := Lib.hid (V0.out.kept hd)
              replace hb := hb.trans (hd.mono hb.size)
              clear hd hO c1
              generalize mkB (clubL ms) = tx at *
              have d0 := V0.out.cell (i := 0) rfl
              have f0 := V0.out.free 0
              obtain ⟨o0, g0⟩ := V0.out.set 0 (.slice none 0 0)
              have hb9 := hb.trans (below_row2 g0 (Nat.le_refl _) hb.size)
              have e0 := o0.cell (i := 0) (v := .slice none 0 0) rfl
              clear o0 g0
              go_wp2
              refine bodyPost_ret (v := .tuple #[.agg #[.slice none 0 0], .bool false]) (by simp [results, Tryz.results7, go_sem, e0]) rfl ?_
              rw [HN.out]
              exact ⟨none, 0, rfl, by simpa using World.ownsRow_nil _ w.heap.size 53 2, hb9⟩
    · have hlt : (12 : Int) < (P.length : Int) := by omega
      have HN : Hid (readClub s.data.toList = none) := Lib.hid (by rw [HRD.out]; exact if_pos (.inr (by show 12 < P.length; omega)))
      have d0 := V0.out.cell (i := 0) rfl
      have f0 := V0.out.free 0
      obtain ⟨o0, g0⟩ := V0.out.set 0 (.slice none 0 0)
      have hb9 := hb.trans (below_row2 g0 (Nat.le_refl _) hb.size)
      have e0 := o0.cell (i := 0) (v := .slice none 0 0) rfl
      clear o0 g0
      go_wp2
      refine bodyPost_ret (v := .tuple #[.agg #[.slice none 0 0], .bool false]) (by simp [results, Tryz.results7, go_sem, e0]) rfl ?_
      rw [HN.out]
      exact ⟨none, 0, rfl, by simpa using World.ownsRow_nil _ w.heap.size 53 2, hb9⟩
end Go.Proofs.YtlbnjdgfggiifaaGreatDoor
