/- Contracts: the program's decimal numbers read back. Lean on Go's tables and on strconv's two errors as they are laid. -/
import Derived.Test.YtjdcdhhbgijaoaaGreatDoorDoA
import Derived.Test.YtjdcdhhbgijaoaaGreatDoorShm
import Derived.Test.YtjdcdhhbgijaoaaGreatDoorNumW
import Derived.Lib.SmallJoins
namespace Go.Proofs.YtjdcdhhbgijaoaaGreatDoor
open Go.ChangeShapes Go.WideShapes Go.ChangeAt Go.RowKit Go.Sort

theorem var_kept {w w' : World} {n : String} {cs : Array Value} (h : w.var? Tryz.prog n = some cs) (hb : Below w.heap.size w w') : w'.var? Tryz.prog n = some cs := by
  unfold World.var? at *
  cases hg : Tryz.prog.globalNamed n with
  | none => simp [hg] at h
  | some g =>
    simp only [hg, Option.bind_some] at h ⊢
    have hlt : g < w.heap.size := by
      rcases Nat.lt_or_ge g w.heap.size with hlt | hge
      · exact hlt
      · rw [Array.getElem?_eq_none hge] at h; simp at h
    rw [hb.block g hlt]
    exact h
/-- what the library's functions ask of the variables of the library -/
def Env (w : World) : Prop := Tab w ∧ (∃ m : Int, w.cell? ⟨0, 0, none⟩ = some (.int .i64 m)) ∧ (∃ tp p, w.var? Tryz.prog "strconv.ErrSyntax" = some #[.iface tp p]) ∧ (∃ tp p, w.var? Tryz.prog "strconv.ErrRange" = some #[.iface tp p])
theorem Env.kept {w w' : World} (h : Env w) (hb : Below w.heap.size w w') : Env w' := by
  obtain ⟨h1, ⟨m, h2⟩, ⟨tp, p, h3⟩, ⟨tq, q, h4⟩⟩ := h
  exact ⟨h1.kept hb, ⟨m, cell_kept h2 hb⟩, ⟨tp, p, var_kept h3 hb⟩, ⟨tq, q, var_kept h4 hb⟩⟩
theorem readAny_bad {l : List UInt8} (h : ∀ n, Lib.parseIntB 64 l ≠ .ok n) : readAny l = none := by
  unfold readAny
  cases hp : Lib.parseIntB 64 l with
  | ok n => exact absurd hp (h n)
  | range => rfl
  | _ => rfl
theorem readAny_at {l : List UInt8} {n : Int} (h : Lib.parseIntB 64 l = .ok n) : readAny l = if Lib.itoa n = l then some n else none := by
  unfold readAny
  rw [h]
set_option maxRecDepth 100000 in
set_option maxHeartbeats 2000000 in
theorem anyDecimal_any (s : ByteArray) (w : World) (he : Env w) (hs : s.size ≤ 1048576) : Calls Tryz.prog 220 #[.string s] w (NumPost (readAny s.data.toList) w) := by
  have HE := Lib.hid he
  obtain ⟨h1, _, ⟨tp, p, h3⟩, ⟨tq, q, h4⟩⟩ := he
  cases hp : Lib.parseIntB 64 s.data.toList with
  | ok n =>
    have hbd : -9223372036854775808 ≤ n ∧ n ≤ 9223372036854775807 := by
      have h := hp
      rw [Lib.parseIntB_64] at h
      exact Lib.atoiAll_bounds h
    have HC := Lib.hid (Tryz.strconv_ParseInt_10_at64_ok s (by omega) n hp w)
    have HR := Lib.hid (readAny_at hp)
    clear hp h1 h3 h4
    obtain ⟨b1, b2⟩ := hbd
    by_cases hq : Lib.itoa n = s.data.toList
    · have HN : Hid (readAny s.data.toList = some n) := Lib.hid (by rw [HR.out, if_pos hq])
      have hq1 : ((mkB (Lib.itoa n)).toList != s.toList) = false := by rw [mkB_list, ByteArray.toList_eq, hq]; simp
      have hq2 : ((mkB (Lib.itoa n)).toList == s.toList) = true := by rw [mkB_list, ByteArray.toList_eq, hq]; simp
      clear hq
      go_enter Tryz.func220, Tryz.ntmps220
      go_wp2_with fail
      refine HC.out.mono ?_
      rintro e w1 ⟨rfl, hw1⟩
      have hd : Below w.heap.size w w1 := by
        rcases hw1 with rfl | ⟨t, rfl⟩
        · exact Below.refl _ _
        · exact Lib.bytesWorld_below _ _ _
      have HE1 := Lib.hid (HE.out.kept hd)
      clear hw1
      go_wp2_with fail
      refine (Decimal_any n b1 b2 w1 HE1.out.1).mono ?_
      rintro e w2 ⟨rfl, hd2⟩
      go_wp2
      go_ret2
      exact ⟨by rw [HN.out]; rfl, hd.trans (hd2.mono hd.size)⟩
    · have HN : Hid (readAny s.data.toList = none) := Lib.hid (by rw [HR.out, if_neg hq])
      have hq1 : ((mkB (Lib.itoa n)).toList != s.toList) = true := by rw [mkB_list, ByteArray.toList_eq]; simpa using hq
      have hq2 : ((mkB (Lib.itoa n)).toList == s.toList) = false := by rw [mkB_list, ByteArray.toList_eq]; simpa using hq
      clear hq
      go_enter Tryz.func220, Tryz.ntmps220
      go_wp2_with fail
      refine HC.out.mono ?_
      rintro e w1 ⟨rfl, hw1⟩
      have hd : Below w.heap.size w w1 := by
        rcases hw1 with rfl | ⟨t, rfl⟩
        · exact Below.refl _ _
        · exact Lib.bytesWorld_below _ _ _
      have HE1 := Lib.hid (HE.out.kept hd)
      clear hw1
      go_wp2_with fail
      refine (Decimal_any n b1 b2 w1 HE1.out.1).mono ?_
      rintro e w2 ⟨rfl, hd2⟩
      go_wp2
      go_ret2
      exact ⟨by rw [HN.out]; rfl, hd.trans (hd2.mono hd.size)⟩
  | range =>
    have HN := Lib.hid (readAny_bad (l := s.data.toList) (fun n e => by rw [hp] at e; cases e))
    have HC := Lib.hid (Tryz.strconv_ParseInt_10_at64_range_var s (by omega) hp tq q w h4)
    clear hp h1 h3 h4
    go_enter Tryz.func220, Tryz.ntmps220
    go_wp2_with fail
    refine HC.out.mono ?_
    rintro e w1 ⟨N, rfl, _, _, hd⟩
    go_wp2
    go_ret2
    exact ⟨by rw [HN.out]; rfl, hd⟩
  | _ =>
    have HN := Lib.hid (readAny_bad (l := s.data.toList) (fun n e => by rw [hp] at e; cases e))
    have HC := Lib.hid (Tryz.strconv_ParseInt_10_at64_syntax_var s (by omega) ⟨fun n e => (by rw [hp] at e; cases e), fun e => (by rw [hp] at e; cases e)⟩ tp p w h3)
    clear hp h1 h3 h4
    go_enter Tryz.func220, Tryz.ntmps220
    go_wp2_with fail
    refine HC.out.mono ?_
    rintro e w1 ⟨N, rfl, _, _, hd⟩
    go_wp2
    go_ret2
    exact ⟨by rw [HN.out]; rfl, hd⟩
theorem trim_minus (l : List UInt8) : Lib.trimPrefix l [45] = dropMinus l := by
  cases l with
  | nil => rfl
  | cons c r =>
    unfold Lib.trimPrefix dropMinus
    by_cases h : c = 45
    · subst h
      have e : Lib.hasPrefix (45 :: r) [45] = true := by simp [Lib.hasPrefix]
      rw [if_pos e]
      simp
    · have e : ¬ Lib.hasPrefix (c :: r) [45] = true := by simp [Lib.hasPrefix]; exact fun e => h e.symm
      rw [if_neg e]
      simp [h]
set_option maxHeartbeats 1000000 in
theorem ReadDecimal_any (s : ByteArray) (w : World) (he : Env w) (hs : s.size ≤ 1048576) : Calls Tryz.prog 141 #[.string s] w (NumPost (readDec s.data.toList) w) := by
  have HT := Lib.hid (Tryz.strings_TrimPrefix s ⟨#[45]⟩ w)
  have HA := Lib.hid (anyDecimal_any s w he hs)
  have e0 : (⟨(Lib.trimPrefix s.data.toList [45]).toArray⟩ : ByteArray) = mkB (dropMinus s.data.toList) := by rw [trim_minus]; rfl
  have HE := Lib.hid e0
  have hz : (mkB (dropMinus s.data.toList)).size = (dropMinus s.data.toList).length := mkB_size _
  clear he e0
  by_cases h18 : 18 < (dropMinus s.data.toList).length
  · have HN : Hid (readDec s.data.toList = none) := Lib.hid (if_pos h18)
    have h1 : 18 < (mkB (dropMinus s.data.toList)).size := by omega
    clear hz h18
    go_enter Tryz.func141, Tryz.ntmps141
    go_wp2_with fail
    refine HT.out.mono ?_
    rintro e w' ⟨rfl, rfl⟩
    rw [HE.out]
    generalize mkB (dropMinus s.data.toList) = t at *
    go_wp2
    go_ret2
    exact ⟨by rw [HN.out]; rfl, Below.refl _ _⟩
  · have HN : Hid (readDec s.data.toList = readAny s.data.toList) := Lib.hid (if_neg h18)
    have h1 : ¬ 18 < (mkB (dropMinus s.data.toList)).size := by omega
    clear hz h18
    go_enter Tryz.func141, Tryz.ntmps141
    go_wp2_with fail
    refine HT.out.mono ?_
    rintro e w' ⟨rfl, rfl⟩
    rw [HE.out]
    generalize mkB (dropMinus s.data.toList) = t at *
    go_wp2_with fail
    refine HA.out.mono ?_
    rintro e w1 ⟨rfl, hd⟩
    go_wp2
    go_ret2
    exact ⟨by rw [HN.out]; rfl, hd⟩
end Go.Proofs.YtjdcdhhbgijaoaaGreatDoor
