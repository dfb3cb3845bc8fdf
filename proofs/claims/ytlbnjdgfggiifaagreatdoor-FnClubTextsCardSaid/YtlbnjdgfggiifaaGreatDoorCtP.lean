/- Plain: clubs and results are read back from their texts; the texts are short. No program in sight. -/
import Derived.Test.YtlbnjdgfggiifaaGreatDoorDoC
import Derived.Test.YtlbnjdgfggiifaaGreatDoorDoE
import Derived.Test.YtlbnjdgfggiifaaGreatDoorDrDt
namespace Go.Proofs.YtlbnjdgfggiifaaGreatDoor
open Go.ChangeShapes Go.WideShapes Go.ChangeAt Go.RowKit Go.Sort

theorem resultL_ne (r : Res) : resultL r ≠ [] := by
  unfold resultL
  split <;> simp
/-- a result's text is read back, if there is one -/
theorem readRes_text (r : Res) : readRes (resultText r).data.toList = if resOk r = true then some r else none := by
  by_cases h : resOk r = true
  · rw [if_pos h]
    unfold resultText
    rw [if_pos h, mkB_data]
    exact (readRes_iff _ _).2 ⟨h, rfl⟩
  · rw [if_neg h]
    unfold resultText
    rw [if_neg h]
    cases e : readRes (⟨#[]⟩ : ByteArray).data.toList with
    | none => rfl
    | some x => exact absurd ((readRes_iff _ _).1 e).2 (resultL_ne x)
theorem resultText_ne {r : Res} (h : resOk r = true) : resultText r ≠ ⟨#[]⟩ := by
  rw [resultText_ok h]
  intro e
  have h2 : (mkB (resultL r)).data.toList = (⟨#[]⟩ : ByteArray).data.toList := by rw [e]
  rw [mkB_data] at h2
  exact resultL_ne r h2
theorem readClub_text {ms : List Mem} (h : clubOk ms = true) : readClub (clubText ms).data.toList = some ms := by
  unfold clubText
  rw [if_pos h, mkB_data]
  exact (readClub_iff _ _).2 ⟨h, rfl⟩
theorem lineT_len {m : Mem} (h : m.tiny) : (lineL m).length ≤ 100 := by
  obtain ⟨h1, h2, h3⟩ := h
  have z1 : m.name.data.toList.length = m.name.size := Array.length_toList
  have z3 := Lib.itoa_length_le _ h2 h3
  unfold lineL
  simp only [List.length_append, List.length_cons]
  omega
theorem clubT_len {ms : List Mem} (h : MemsTiny ms) : (clubL ms).length ≤ ms.length * 101 := by
  induction ms with
  | nil => exact Nat.le_refl _
  | cons m ms ih =>
    have h1 := lineT_len (h m (List.mem_cons_self ..))
    have h2 := ih (fun x hx => h x (List.mem_cons_of_mem _ hx))
    have e : clubL (m :: ms) = lineL m ++ 10 :: clubL ms := by simp [clubL]
    rw [e]
    simp only [List.length_append, List.length_cons]
    omega
theorem clubOk_tiny {ms : List Mem} (h : clubOk ms = true) : ms.length ≤ 12 ∧ MemsTiny ms := by
  obtain ⟨h1, h2⟩ := club_mem h
  refine ⟨h1, fun m hm => ?_⟩
  obtain ⟨g1, g2, g3⟩ := h2 m hm
  have := (name_len g1).2
  have z1 : m.name.data.toList.length = m.name.size := Array.length_toList
  exact ⟨by omega, by omega, by omega⟩
theorem clubText_size (ms : List Mem) : (clubText ms).size ≤ 2000 := by
  cases h : clubOk ms with
  | true =>
    obtain ⟨h1, h2⟩ := clubOk_tiny h
    have := clubT_len h2
    rw [clubText_ok h, mkB_size]
    omega
  | false => rw [clubText_bad h]; exact (by decide : (⟨#[]⟩ : ByteArray).size ≤ 2000)
theorem MemsTiny.small {ms : List Mem} (h : MemsTiny ms) (hl : ms.length ≤ 64) : SmallMems ms :=
  ⟨hl, fun m hm => ⟨by have := (h m hm).1; omega, (h m hm).2⟩⟩
theorem Res.tiny.small {r : Res} (h : r.tiny) : SmallRes r := ⟨by have := h.1; omega, by have := h.2.1; omega, h.2.2⟩
theorem Res.tiny.fit {r : Res} (h : r.tiny) : r.fit := ⟨by have := h.1; omega, by have := h.2.1; omega⟩
theorem resT_len {r : Res} (h : r.tiny) : (resultL r).length ≤ 300 := by
  obtain ⟨s0, s1, ⟨s2, s3⟩, s4, s5⟩ := h
  have z1 : r.a.data.toList.length = r.a.size := Array.length_toList
  have z2 : r.b.data.toList.length = r.b.size := Array.length_toList
  have z3 := Lib.itoa_length_le _ s2 s3
  have z4 := Lib.itoa_length_le _ s4 s5
  unfold resultL
  split
  · simp only [List.length_append, List.length_cons, bye, List.length_nil]; omega
  · simp only [List.length_append, List.length_cons]; omega
theorem resultText_size (r : Res) : (resultText r).size ≤ 300 := by
  cases h : resOk r with
  | false => rw [resultText_bad h]; exact (by decide : (⟨#[]⟩ : ByteArray).size ≤ 300)
  | true =>
    rw [resultText_ok h, mkB_size]
    cases hb : r.b.toList.isEmpty with
    | true =>
      obtain ⟨e, hn⟩ := res_bye h hb
      have h1 := (name_len hn).2
      refine resT_len ?_
      rw [e]
      refine ⟨?_, (show (0 : Nat) ≤ 64 by omega), zero_tiny, zero_tiny⟩
      show (mkB r.a.data.toList).size ≤ 64
      rw [mkB_size]
      omega
    | false =>
      obtain ⟨hn, hm, ⟨g1, g2⟩, g3, g4⟩ := res_game h hb
      have h1 := (name_len hn).2
      have h2 := (name_len hm).2
      have z1 : r.a.data.toList.length = r.a.size := Array.length_toList
      have z2 : r.b.data.toList.length = r.b.size := Array.length_toList
      exact resT_len ⟨by omega, by omega, ⟨by omega, by omega⟩, by omega, by omega⟩
end Go.Proofs.YtlbnjdgfggiifaaGreatDoor
