/- Contracts: whether a list of plays may be scored. Go's tables of unicode and unicode/utf8 hold what is laid (CEnv); texts fit. -/
import Derived.Test.YtofcampipllegaaGreatDoorBpD
import Derived.Test.YtofcampipllegaaGreatDoorScL
namespace Go.Proofs.YtofcampipllegaaGreatDoor
open Go.ChangeShapes Go.WideShapes Go.ChangeAt Go.RowKit Go.Sort

theorem ply_cells {w : World} {a : Option Addr} {ps : List Ply} (h : SliceAt w 4 Ply.enc a ps) {k : Nat} (hk : k < ps.length) : ∃ b o, a = some ⟨b, o, none⟩ ∧ ∀ j v, (Ply.enc ps[k])[j]? = some v → w.cell? ⟨b, o + k * 4 + j, none⟩ = some v := by
  obtain ⟨b, o, rfl, hc⟩ := h.open hk
  exact ⟨b, o, rfl, fun j v hv => hc k hk j v hv⟩
/-- whether all plays of a list lie well -/
def allPlays (b : Brd) (ps : List Ply) : Bool := ps.all b.okPlay
theorem plays_no {b : Brd} {ps : List Ply} {k : Nat} (hk : k < ps.length) (h : b.okPlay ps[k] = false) : allPlays b ps = false := by
  unfold allPlays
  rw [Bool.eq_false_iff]
  intro h2
  rw [List.all_eq_true] at h2
  rw [h2 _ (List.getElem_mem hk)] at h
  cases h
theorem plays_yes {b : Brd} {ps : List Ply} (h : ∀ k (hk : k < ps.length), b.okPlay ps[k] = true) : allPlays b ps = true := by
  unfold allPlays
  rw [List.all_eq_true]
  intro p hp
  obtain ⟨k, hk, rfl⟩ := List.getElem_of_mem hp
  exact h k hk
set_option maxRecDepth 100000 in
set_option maxHeartbeats 4000000 in
theorem indexFns_any (b : Brd) (ps : List Ply) (n bb : Nat) (a : Option Addr) (cap : Nat) (w : World) (hb0 : b.Good n) (hs : ∀ p ∈ ps, p.word.size ≤ 1048576) (hl : ps.length ≤ 9223372036854775807) (hE : CEnv w) (hg : BAt w bb 0 b) (hm : SliceAt w 4 Ply.enc a ps) :
    Calls Tryz.prog 198 #[.slice a ps.length cap, .func (.func 124) #[] #[.pointer (some ⟨bb, 0, none⟩)]] w fun e w' => (∃ r : Int, e = .returned (.int .i64 r) ∧ ((0 ≤ r ∧ allPlays b ps = false) ∨ (r = -1 ∧ allPlays b ps = true))) ∧ Below w.heap.size w w' := by
  have HSF : Hid (∀ k (hk : k < ps.length) W, CEnv W → BAt W bb 0 b → Calls Tryz.prog 124 #[.agg #[.int .i64 ps[k].row, .int .i64 ps[k].col, .bool ps[k].down, .string ps[k].word], .pointer (some ⟨bb, 0, none⟩)] W fun e w' => e = .returned (.bool (!b.okPlay ps[k])) ∧ Below W.heap.size W w') := Lib.hid (fun k hk W h h2 => scorFn_any b ps[k] n bb W hb0 (hs _ (List.getElem_mem hk)) h h2)
  have HM := Lib.hid hm
  have HE := Lib.hid hE
  have HG := Lib.hid hg
  have HN := Lib.hid (fun k (hk : k < ps.length) h => plays_no (b := b) (ps := ps) hk h)
  have HY := Lib.hid (fun h => plays_yes (b := b) (ps := ps) h)
  have hb : Below w.heap.size w w := Below.refl _ _
  clear hb0 hs hE hg hm
  go_enter Tryz.func198, Tryz.ntmps198
  go_upto_region 2 with fail
  go_loopw [8] (fun iv wr => ∃ k : Nat, k ≤ ps.length ∧ iv = .int .i64 k ∧ Hid (∀ j (h : j < ps.length), j < k → b.okPlay ps[j] = true) ∧ Hid (BAt wr bb 0 b) ∧ Below w.heap.size w wr) (fun iv _ => ps.length - (intOf iv).toNat)
  case atStart => exact ⟨0, Nat.zero_le _, rfl, Lib.hid (fun j _ h => absurd h (Nat.not_lt_zero _)), HG, hb⟩
  case round =>
    clear HG hb
    obtain ⟨k, hk, rfl, HP, HG, hb⟩ := hrel
    by_cases hk2 : k < ps.length
    · obtain ⟨b', o', rfl, c1⟩ := ply_cells HM.out hk2
      have c10 := cell_kept (c1 0 _ rfl) hb
      have c11 := cell_kept (c1 1 _ rfl) hb
      have c12 := cell_kept (c1 2 _ rfl) hb
      have c13 := cell_kept (c1 3 _ rfl) hb
      rw [Nat.add_zero] at c10
      have hk0 : (0 : Int) ≤ (k : Int) := by omega
      have hk3 : (k : Int) < (ps.length : Int) := by omega
      have HC := Lib.hid (HSF.out k hk2)
      have HNk := Lib.hid (HN.out k hk2)
      have HPk := Lib.hid (fun h : b.okPlay ps[k] = true => (fun j (hj : j < ps.length) (hjk : j < k + 1) => (by
        by_cases e : j = k
        · subst e; exact h
        · exact HP.out j hj (by omega) : b.okPlay ps[j] = true)))
      clear c1 HSF HN HP
      generalize ps[k] = pk at *
      generalize hv : b.okPlay pk = v at *
      clear hv
      go_wp2_with fail
      refine (HC.out _ (HE.out.kept hb) HG.out).mono ?_
      rintro e w3 ⟨rfl, hd⟩
      replace hb := hb.trans (hd.mono hb.size)
      replace HG := Lib.hid (HG.out.kept hd)
      clear hd
      clear c10 c11 c12 c13 HC
      cases v with
      | false =>
        go_wp2
        go_ret
        exact ⟨⟨k, rfl, .inl ⟨by omega, HNk.out (by trivial)⟩⟩, hb⟩
      | true =>
        go_wp2
        go_roundw
        case rel => exact ⟨k + 1, by omega, by go_num, Lib.hid (HPk.out (by trivial)), HG, hb⟩
        case measure => simp [intOf]; omega
    · obtain rfl : k = ps.length := by omega
      have HY2 := Lib.hid (HY.out (fun j hj => HP.out j hj hj))
      clear HP HY HN HSF
      go_wp2
      go_ret
      exact ⟨⟨-1, rfl, .inr ⟨rfl, HY2.out⟩⟩, hb⟩
set_option maxHeartbeats 1000000 in
theorem containsFns_any (b : Brd) (ps : List Ply) (n bb : Nat) (a : Option Addr) (cap : Nat) (w : World) (hb0 : b.Good n) (hs : ∀ p ∈ ps, p.word.size ≤ 1048576) (hl : ps.length ≤ 9223372036854775807) (hE : CEnv w) (hg : BAt w bb 0 b) (hm : SliceAt w 4 Ply.enc a ps) :
    Calls Tryz.prog 123 #[.slice a ps.length cap, .func (.func 124) #[] #[.pointer (some ⟨bb, 0, none⟩)]] w fun e w' => e = .returned (.bool (!allPlays b ps)) ∧ Below w.heap.size w w' := by
  have HIF := Lib.hid (indexFns_any b ps n bb a cap w hb0 hs hl hE hg hm)
  clear hb0 hs hE hg hm
  generalize allPlays b ps = v at *
  go_enter Tryz.func123, Tryz.ntmps123
  go_wp2_with fail
  refine (HIF.out).mono ?_
  rintro e w2 ⟨⟨r, rfl, hr⟩, hd⟩
  clear HIF
  rcases hr with ⟨h1, rfl⟩ | ⟨rfl, rfl⟩
  · go_wp2
    go_ret
    exact ⟨rfl, hd⟩
  · go_wp2
    go_ret
    exact ⟨rfl, hd⟩
end Go.Proofs.YtofcampipllegaaGreatDoor
