/- Contract: the program's sequence of letters in a direction. For valid boards and a square with a letter. · Contract: the program's crossings of a play. For valid plays on valid boards. · Plain: the squares of a word across, on the board after a play, hold the word that the reference forms. No condition. -/
import Derived.Test.YtjdcdhhbgijaoaaGreatDoorPlbC
namespace Go.Proofs.YtjdcdhhbgijaoaaGreatDoor
open Go.ChangeShapes Go.WideShapes Go.ChangeAt Go.RowKit Go.Sort

/-- the square at an offset in a direction -/
def dirSq (d : Bool) (r c m : Int) : Int × Int := if d then (r + m, c) else (r, c + m)
def lineF (b : Brd) (d : Bool) (r c : Int) : Fl := fun m _ => b.cell (dirSq d r c m).1 (dirSq d r c m).2
def seqU (b : Brd) (d : Bool) (r c : Int) : Nat := (upL (lineF b d r c) 0 16 (-1)).length
def seqD (b : Brd) (d : Bool) (r c : Int) : Nat := (dnL (lineF b d r c) 0 16 1).length
/-- the squares of the letters through a square, in a direction -/
def seqL (b : Brd) (d : Bool) (r c : Int) : List (Int × Int) := (List.range (seqU b d r c + 1 + seqD b d r c)).map fun j : Nat => dirSq d r c ((j : Int) - seqU b d r c)
theorem seqL_len (b : Brd) (d : Bool) (r c : Int) : (seqL b d r c).length = seqU b d r c + 1 + seqD b d r c := by simp [seqL]
theorem line_in {b : Brd} {n : Nat} (h : b.Good n) {d : Bool} {r c m : Int} (hi : b.inB r c = true) (hf : fullC (lineF b d r c m 0) = true) : -15 ≤ m ∧ m ≤ 15 := by
  have h1 := h.inB.1 hi
  have h2 := h.inB.1 (h.full_in hf)
  have h3 := h.hi
  unfold dirSq at h2
  cases d <;> simp only [if_true, if_false, Bool.false_eq_true] at h2 <;> omega
theorem line_mid {b : Brd} {d : Bool} {r c : Int} (h : fullC (b.cell r c) = true) : fullC (lineF b d r c 0 0) = true := by
  unfold lineF dirSq
  cases d
  · simpa using h
  · simpa using h
theorem seqU_le {b : Brd} {n : Nat} (h : b.Good n) {d : Bool} {r c : Int} (hi : b.inB r c = true) : seqU b d r c ≤ 15 := by
  by_cases h0 : 15 < seqU b d r c
  · have h1 := (upL_at (F := lineF b d r c) (c := 0) 16 (-1) 15 h0).2
    have := line_in h hi h1
    omega
  · omega
theorem seqD_le {b : Brd} {n : Nat} (h : b.Good n) {d : Bool} {r c : Int} (hi : b.inB r c = true) : seqD b d r c ≤ 15 := by
  by_cases h0 : 15 < seqD b d r c
  · have h1 := (dnL_at (F := lineF b d r c) (c := 0) 16 1 15 h0).2
    have := line_in h hi h1
    omega
  · omega
/-- the letters lie just on the squares of the sequence -/
theorem seq_lo {b : Brd} {d : Bool} {r c : Int} {j : Nat} (h : j < seqU b d r c) : fullC (lineF b d r c (-1 - j) 0) = true := (upL_at (F := lineF b d r c) (c := 0) 16 (-1) j h).2
theorem seq_hi {b : Brd} {d : Bool} {r c : Int} {j : Nat} (h : j < seqD b d r c) : fullC (lineF b d r c (1 + j) 0) = true := (dnL_at (F := lineF b d r c) (c := 0) 16 1 j h).2
theorem seq_before {b : Brd} {d : Bool} {r c : Int} (h : seqU b d r c ≤ 15) : fullC (lineF b d r c (-1 - seqU b d r c) 0) = false := upL_end (F := lineF b d r c) (c := 0) 16 (-1) (Nat.lt_succ_of_le h)
theorem seq_behind {b : Brd} {d : Bool} {r c : Int} (h : seqD b d r c ≤ 15) : fullC (lineF b d r c (1 + seqD b d r c) 0) = false := dnL_end (F := lineF b d r c) (c := 0) 16 1 (Nat.lt_succ_of_le h)
theorem take_range {α : Type} (f : Nat → α) {n k : Nat} (h : k < n) : ((List.range n).map f).take (k + 1) = ((List.range n).map f).take k ++ [f k] := by
  rw [List.take_succ_eq_append_getElem (by simpa using h)]
  simp
/-- squares in a row of the call's own -/
def SqsPost (w : World) (xs : List (Int × Int)) (e : Ending) (w' : World) : Prop :=
  ∃ g cap, e = .returned (.slice (some ⟨g, 0, none⟩) xs.length cap) ∧ w'.ownsRow w.heap.size 73 2 (.slice (some ⟨g, 0, none⟩) xs.length cap) xs.length (xs.flatMap Sq.enc) ∧ Below w.heap.size w w'

set_option maxRecDepth 100000 in
set_option maxHeartbeats 8000000 in
theorem seq_across (b : Brd) (n : Nat) (r c : Int) (w : World) (hb0 : b.Good n) (hi : b.inB r c = true) (hf0 : fullC (b.cell r c) = true) :
    Calls Tryz.prog 241 #[.agg #[.int .i64 b.size, .string b.premium, .string b.cells], .agg #[.int .i64 r, .int .i64 c], dirV false] w (SqsPost w (seqL b false r c)) := by
  obtain ⟨i0, hi0, hi1, hi2, hi3⟩ := info_parts infoSq
  have hn15 := hb0.hi
  obtain ⟨⟨hr0, hr1⟩, hc0, hc1⟩ := hb0.inB.1 hi
  have hu15 := seqU_le hb0 (d := false) hi
  have hd15 := seqD_le hb0 (d := false) hi
  have HLO := Lib.hid (fun j (h : j < seqU b false r c) => seq_lo h)
  have HHI := Lib.hid (fun j (h : j < seqD b false r c) => seq_hi h)
  have HBE := Lib.hid (seq_before hu15)
  have HBH := Lib.hid (seq_behind hd15)
  have hmid : fullC (lineF b false r c 0 0) = true := line_mid hf0
  obtain ⟨f, hf⟩ : ∃ f : Int → UInt8, ∀ m, f m = lineF b false r c m 0 := ⟨_, fun _ => rfl⟩
  obtain ⟨sr, hsr⟩ : ∃ sr : Int → Int, ∀ m, sr m = (dirSq false r c m).1 := ⟨_, fun _ => rfl⟩
  obtain ⟨sc, hsc⟩ : ∃ sc : Int → Int, ∀ m, sc m = (dirSq false r c m).2 := ⟨_, fun _ => rfl⟩
  have HAC : Hid (∀ m W, -20 ≤ m ∧ m ≤ 20 → Calls Tryz.prog 346 #[.agg #[], .int .i64 r, .int .i64 c, .int .i64 m] W fun e w' => e = .returned (.agg #[.int .i64 (sr m), .int .i64 (sc m)]) ∧ Below W.heap.size W w') := Lib.hid (fun m W h => by rw [hsr, hsc]; exact rat_any r c m W (by omega))
  have HON : Hid (∀ m bv W, fullC (f m) = bv → Calls Tryz.prog 191 #[.agg #[.int .i64 b.size, .string b.premium, .string b.cells], .agg #[.int .i64 (sr m), .int .i64 (sc m)]] W fun e w' => e = .returned (.bool bv) ∧ Below W.heap.size W w') := Lib.hid (fun m bv W e => by rw [← e, hf, hsr, hsc]; exact on_any b n _ _ W hb0)
  have HSL : Hid (seqL b false r c = (List.range (seqU b false r c + 1 + seqD b false r c)).map fun j : Nat => (sr ((j : Int) - seqU b false r c), sc ((j : Int) - seqU b false r c))) := Lib.hid (List.map_congr_left fun j _ => by rw [hsr, hsc])
  simp only [← hf] at HLO HHI HBE HBH hmid
  have HMID := Lib.hid hmid
  rw [HSL.out]
  clear hb0 hi hf0 hf hsr hsc hmid HSL
  generalize seqU b false r c = u at *
  generalize seqD b false r c = d at *
  generalize hSQ : (List.range (u + 1 + d)).map (fun j : Nat => (sr ((j : Int) - u), sc ((j : Int) - u))) = SQ at *
  have HTK : Hid (∀ k, k < u + 1 + d → SQ.take (k + 1) = SQ.take k ++ [(sr ((k : Int) - u), sc ((k : Int) - u))]) := Lib.hid (fun k h => by
    rw [← hSQ]
    exact take_range (fun j : Nat => (sr ((j : Int) - u), sc ((j : Int) - u))) h)
  have HSLN : Hid (SQ.length = u + 1 + d) := Lib.hid (by rw [← hSQ]; simp)
  clear hSQ
  obtain ⟨w2, hw2⟩ : ∃ w2, w2 = (w.alloc (.cells #[.int .i64 b.size, .string b.premium, .string b.cells] 25)).alloc (.cells #[.int .i64 r, .int .i64 c] 73) := ⟨_, rfl⟩
  have hb : Below w.heap.size w w2 := by rw [hw2]; exact ((Below.refl _ _).alloc (Nat.le_refl _) _).alloc (by simp) _
  have VB : Hid (VarAt w2 w.heap.size 25 [.int .i64 b.size, .string b.premium, .string b.cells]) := by
    rw [hw2]
    exact Lib.hid ((VarAt.new w 25 [.int .i64 b.size, .string b.premium, .string b.cells]).kept ((Below.refl _ _).alloc (Nat.le_refl _) _))
  have VS : Hid (VarAt w2 (w.heap.size + 1) 73 [.int .i64 r, .int .i64 c]) := by
    rw [hw2]
    have := VarAt.new (w.alloc (.cells #[.int .i64 b.size, .string b.premium, .string b.cells] 25)) 73 [.int .i64 r, .int .i64 c]
    simp only [World.size_alloc] at this
    exact Lib.hid this
  have HW2 := Lib.hid hw2
  clear hw2
  rw [show dirV false = .iface 256 (.agg #[]) from rfl]
  go_enter Tryz.func241, Tryz.ntmps241
  go_upto_region 1 with fail
  rw [← HW2.out]
  clear HW2
  go_wp2_with fail
  go_loopw [7] (fun iv wr => ∃ (j : Nat) (m : Int), j ≤ u ∧ m + j = 0 ∧ iv = .int .i64 m ∧ Hid (VarAt wr w.heap.size 25 [.int .i64 b.size, .string b.premium, .string b.cells]) ∧ Hid (VarAt wr (w.heap.size + 1) 73 [.int .i64 r, .int .i64 c]) ∧ Below w.heap.size w wr) (fun iv _ => (intOf iv + 17).toNat)
  case atStart => exact ⟨0, 0, Nat.zero_le _, rfl, rfl, VB, VS, hb⟩
  case round =>
    clear VB VS hb
    obtain ⟨j, m, hj, hmj, rfl, VB, VS, hb⟩ := hrel
    by_cases hju : j < u
    · have h1 := HLO.out j hju
      rw [show -1 - (j : Int) = m - 1 from by omega] at h1
      have HBV := Lib.hid h1
      clear h1
      have wr1 : IntKind.i64.wrap (m - 1) = m - 1 := IntWalk.i64_in _ (by omega)
      go_upto_region 2 with fail
      have hd : Below wr.heap.size wr wr.drew := (Below.refl _ _).drew
      replace hb := hb.trans (hd.mono hb.size)
      replace VB := Lib.hid (VB.out.kept hd)
      replace VS := Lib.hid (VS.out.kept hd)
      clear hd
      go_region_held3 (fun w' => w'.cell? ⟨w.heap.size, 0, none⟩ = some (.int .i64 b.size) ∧ w'.cell? ⟨w.heap.size, 1, none⟩ = some (.string b.premium) ∧ w'.cell? ⟨w.heap.size, 2, none⟩ = some (.string b.cells) ∧ w'.cell? ⟨w.heap.size + 1, 0, none⟩ = some (.int .i64 r) ∧ w'.cell? ⟨w.heap.size + 1, 1, none⟩ = some (.int .i64 c))
        (exact ⟨VB.out.cell (i := 0) rfl, VB.out.cell (i := 1) rfl, VB.out.cell (i := 2) rfl, VS.out.cell (i := 0) rfl, VS.out.cell (i := 1) rfl⟩)
        (((first | (go_at_call 346; refine (HAC.out (m - 1) _ (by omega)).mono ?_; rintro e wq ⟨rfl, hd⟩) | (go_at_call 191; refine (HON.out (m - 1) true _ HBV.out).mono ?_; rintro e wq ⟨rfl, hd⟩)); replace VB := Lib.hid (VB.out.kept hd); replace VS := Lib.hid (VS.out.kept hd); replace hb := hb.trans (hd.mono hb.size); clear hd))
      clear HBV wr1
      go_wp2
      go_roundw
      case rel => exact ⟨j + 1, m - 1, by omega, by omega, by go_num, VB, VS, hb⟩
      case measure => simp [intOf]; omega
    · obtain rfl : j = u := by omega
      have h1 := HBE.out
      rw [show -1 - (j : Int) = m - 1 from by omega] at h1
      have HBV := Lib.hid h1
      clear h1
      have wr1 : IntKind.i64.wrap (m - 1) = m - 1 := IntWalk.i64_in _ (by omega)
      go_upto_region 2 with fail
      have hd : Below wr.heap.size wr wr.drew := (Below.refl _ _).drew
      replace hb := hb.trans (hd.mono hb.size)
      replace VB := Lib.hid (VB.out.kept hd)
      replace VS := Lib.hid (VS.out.kept hd)
      clear hd
      go_region_held3 (fun w' => w'.cell? ⟨w.heap.size, 0, none⟩ = some (.int .i64 b.size) ∧ w'.cell? ⟨w.heap.size, 1, none⟩ = some (.string b.premium) ∧ w'.cell? ⟨w.heap.size, 2, none⟩ = some (.string b.cells) ∧ w'.cell? ⟨w.heap.size + 1, 0, none⟩ = some (.int .i64 r) ∧ w'.cell? ⟨w.heap.size + 1, 1, none⟩ = some (.int .i64 c))
        (exact ⟨VB.out.cell (i := 0) rfl, VB.out.cell (i := 1) rfl, VB.out.cell (i := 2) rfl, VS.out.cell (i := 0) rfl, VS.out.cell (i := 1) rfl⟩)
        (((first | (go_at_call 346; refine (HAC.out (m - 1) _ (by omega)).mono ?_; rintro e wq ⟨rfl, hd⟩) | (go_at_call 191; refine (HON.out (m - 1) false _ HBV.out).mono ?_; rintro e wq ⟨rfl, hd⟩)); replace VB := Lib.hid (VB.out.kept hd); replace VS := Lib.hid (VS.out.kept hd); replace hb := hb.trans (hd.mono hb.size); clear hd))
      clear HBV wr1
      generalize wq = w5 at *
      have HO : Hid ((w5.alloc (.cells #[] 73)).ownsRow (w.heap.size + 2) 73 2 (.slice (some ⟨w5.heap.size, 0, none⟩) 0 0) 0 ((SQ.take 0).flatMap Sq.enc)) := Lib.hid (World.ownsRow_made (base := w.heap.size + 2) (e := 73) (size := 2) w5 #[] 0 (by have := VS.out.lt; omega) (by unfold maxLen; omega) rfl)
      have hd : Below w5.heap.size w5 (w5.alloc (.cells #[] 73)) := (Below.refl _ _).alloc (Nat.le_refl _) _
      replace hb := hb.trans (hd.mono hb.size)
      replace VB := Lib.hid (VB.out.kept hd)
      replace VS := Lib.hid (VS.out.kept hd)
      clear hd
      go_wp2_with fail
      go_loopw [8, 9] (fun ov iv wr => ∃ (k g1 cap : Nat) (x : Int), k ≤ j + 1 + d ∧ x + j = k ∧ iv = .int .i64 x ∧ ov = .slice (some ⟨g1, 0, none⟩) k cap ∧ Hid (wr.ownsRow (w.heap.size + 2) 73 2 (.slice (some ⟨g1, 0, none⟩) k cap) k ((SQ.take k).flatMap Sq.enc)) ∧ Hid (VarAt wr w.heap.size 25 [.int .i64 b.size, .string b.premium, .string b.cells]) ∧ Hid (VarAt wr (w.heap.size + 1) 73 [.int .i64 r, .int .i64 c]) ∧ Below w.heap.size w wr) (fun _ iv _ => (17 - intOf iv).toNat)
      case atStart => exact ⟨0, _, 0, m, Nat.zero_le _, by omega, rfl, rfl, HO, VB, VS, hb⟩
      case round =>
        clear VB VS hb HO hmj
        obtain ⟨k, g1, cap, x, hk, hxk, rfl, rfl, HO, VB, VS, hb⟩ := hrel
        by_cases hkl : k < j + 1 + d
        · have h1 : fullC (f x) = true := by
            by_cases h2 : k < j
            · have h3 := HLO.out (j - 1 - k) (by omega)
              rwa [show -1 - ((j - 1 - k : Nat) : Int) = x from by omega] at h3
            · by_cases h4 : k = j
              · rw [show x = 0 from by omega]
                exact HMID.out
              · have h3 := HHI.out (k - j - 1) (by omega)
                rwa [show 1 + ((k - j - 1 : Nat) : Int) = x from by omega] at h3
          have HBV := Lib.hid h1
          clear h1
          go_upto_region 6 with fail
          have hd : Below wr.heap.size wr wr.drew := (Below.refl _ _).drew
          replace hb := hb.trans (hd.mono hb.size)
          replace HO := Lib.hid (own_below HO.out hd)
          replace VB := Lib.hid (VB.out.kept hd)
          replace VS := Lib.hid (VS.out.kept hd)
          clear hd
          go_region_held3 (fun w' => w'.cell? ⟨w.heap.size, 0, none⟩ = some (.int .i64 b.size) ∧ w'.cell? ⟨w.heap.size, 1, none⟩ = some (.string b.premium) ∧ w'.cell? ⟨w.heap.size, 2, none⟩ = some (.string b.cells) ∧ w'.cell? ⟨w.heap.size + 1, 0, none⟩ = some (.int .i64 r) ∧ w'.cell? ⟨w.heap.size + 1, 1, none⟩ = some (.int .i64 c))
            (exact ⟨VB.out.cell (i := 0) rfl, VB.out.cell (i := 1) rfl, VB.out.cell (i := 2) rfl, VS.out.cell (i := 0) rfl, VS.out.cell (i := 1) rfl⟩)
            (((first | (go_at_call 346; refine (HAC.out x _ (by omega)).mono ?_; rintro e wq ⟨rfl, hd⟩) | (go_at_call 191; refine (HON.out x true _ HBV.out).mono ?_; rintro e wq ⟨rfl, hd⟩)); replace HO := Lib.hid (own_below HO.out hd); replace VB := Lib.hid (VB.out.kept hd); replace VS := Lib.hid (VS.out.kept hd); replace hb := hb.trans (hd.mono hb.size); clear hd))
          generalize wq = w6 at *
          clear HBV
          have HT : Hid (SQ.take (k + 1) = SQ.take k ++ [(sr x, sc x)]) := Lib.hid (by rw [HTK.out k hkl, show (k : Int) - j = x from by omega])
          have s0 := VS.out.cell (i := 0) rfl
          have s1 := VS.out.cell (i := 1) rfl
          go_wp2_with fail
          clear s0 s1
          refine (HAC.out x _ (by omega)).mono ?_
          rintro e w7 ⟨rfl, hd⟩
          replace hb := hb.trans (hd.mono hb.size)
          replace HO := Lib.hid (own_below HO.out hd)
          replace VB := Lib.hid (VB.out.kept hd)
          replace VS := Lib.hid (VS.out.kept hd)
          clear hd
          have hd : Below w7.heap.size w7 (w7.alloc (.cells #[.int .i64 (sr x), .int .i64 (sc x)] 73)) := (Below.refl _ _).alloc (Nat.le_refl _) _
          have KN := Lib.hid (new_sq w7 (sr x, sc x) 73)
          have hz4 := VS.out.lt
          replace hb := hb.trans (hd.mono hb.size)
          replace HO := Lib.hid (own_below HO.out hd)
          replace VB := Lib.hid (VB.out.kept hd)
          replace VS := Lib.hid (VS.out.kept hd)
          clear hd
          go_wp2_with (at_builtin; go_must (refine wpList_append_lies _ rfl (.tmp 35) (.tmp 43) 65 rfl (w.heap.size + 2) 73 i0 _ 2 16 Tryz.underlying65 hi0 hi1 hi2 hi3 rfl (by decide) _ k ((SQ.take k).flatMap Sq.enc) (by rfl) HO.out ⟨w7.heap.size, 0, none⟩ 1 1 (Sq.enc (sr x, sc x)) (by rfl) rfl KN.out (sq_one (sr x, sc x)) (by decide) ?c1 ?c2 ?c3 _ rfl ?_))
          case c1 => unfold maxLen; omega
          case c2 => omega
          case c3 => (first | omega | (simp only [World.size_alloc]; omega))
          intro g7 cap7 w8 hown hgr hwh hlt7
          have hb8 := hb.grown hgr hb.size (fun q e => by have := (HO.out.lt q e).1; omega)
          have HO8 : Hid (w8.ownsRow (w.heap.size + 2) 73 2 (.slice (some ⟨g7, 0, none⟩) (k + 1) cap7) (k + 1) ((SQ.take (k + 1)).flatMap Sq.enc)) := Lib.hid (by rw [HT.out, snoc_flat Sq.enc]; exact hown)
          have VB8 := Lib.hid (VB.out.grown hgr (own_ne HO.out (by omega)))
          have VS8 := Lib.hid (VS.out.grown hgr (own_ne HO.out (by omega)))
          clear hown hgr hwh KN HO hb VB VS HT
          go_wp2
          go_roundw
          case rel => exact ⟨k + 1, g7, cap7, x + 1, by omega, by omega, by go_num, by go_num, HO8, VB8, VS8, hb8⟩
          case measure => simp [intOf]; omega
        · have h1 : fullC (f x) = false := by
            have h3 := HBH.out
            rwa [show 1 + (d : Int) = x from by omega] at h3
          have HBV := Lib.hid h1
          clear h1
          go_upto_region 6 with fail
          have hd : Below wr.heap.size wr wr.drew := (Below.refl _ _).drew
          replace hb := hb.trans (hd.mono hb.size)
          replace HO := Lib.hid (own_below HO.out hd)
          replace VB := Lib.hid (VB.out.kept hd)
          replace VS := Lib.hid (VS.out.kept hd)
          clear hd
          go_region_held3 (fun w' => w'.cell? ⟨w.heap.size, 0, none⟩ = some (.int .i64 b.size) ∧ w'.cell? ⟨w.heap.size, 1, none⟩ = some (.string b.premium) ∧ w'.cell? ⟨w.heap.size, 2, none⟩ = some (.string b.cells) ∧ w'.cell? ⟨w.heap.size + 1, 0, none⟩ = some (.int .i64 r) ∧ w'.cell? ⟨w.heap.size + 1, 1, none⟩ = some (.int .i64 c))
            (exact ⟨VB.out.cell (i := 0) rfl, VB.out.cell (i := 1) rfl, VB.out.cell (i := 2) rfl, VS.out.cell (i := 0) rfl, VS.out.cell (i := 1) rfl⟩)
            (((first | (go_at_call 346; refine (HAC.out x _ (by omega)).mono ?_; rintro e wq ⟨rfl, hd⟩) | (go_at_call 191; refine (HON.out x false _ HBV.out).mono ?_; rintro e wq ⟨rfl, hd⟩)); replace HO := Lib.hid (own_below HO.out hd); replace VB := Lib.hid (VB.out.kept hd); replace VS := Lib.hid (VS.out.kept hd); replace hb := hb.trans (hd.mono hb.size); clear hd))
          generalize wq = w6 at *
          clear HBV
          have hO := HO.out
          rw [List.take_of_length_le (by rw [HSLN.out]; omega)] at hO
          have HON2 := Lib.hid hO
          have HL : Hid (SQ.length = k) := Lib.hid (by rw [HSLN.out]; omega)
          clear hO HO
          go_wp2
          go_ret
          exact ⟨g1, cap, by rw [HL.out]; rfl, by rw [HL.out]; exact own_mono HON2.out (by omega), hb⟩
set_option maxRecDepth 100000 in
set_option maxHeartbeats 8000000 in
theorem seq_down (b : Brd) (n : Nat) (r c : Int) (w : World) (hb0 : b.Good n) (hi : b.inB r c = true) (hf0 : fullC (b.cell r c) = true) :
    Calls Tryz.prog 241 #[.agg #[.int .i64 b.size, .string b.premium, .string b.cells], .agg #[.int .i64 r, .int .i64 c], dirV true] w (SqsPost w (seqL b true r c)) := by
  obtain ⟨i0, hi0, hi1, hi2, hi3⟩ := info_parts infoSq
  have hn15 := hb0.hi
  obtain ⟨⟨hr0, hr1⟩, hc0, hc1⟩ := hb0.inB.1 hi
  have hu15 := seqU_le hb0 (d := true) hi
  have hd15 := seqD_le hb0 (d := true) hi
  have HLO := Lib.hid (fun j (h : j < seqU b true r c) => seq_lo h)
  have HHI := Lib.hid (fun j (h : j < seqD b true r c) => seq_hi h)
  have HBE := Lib.hid (seq_before hu15)
  have HBH := Lib.hid (seq_behind hd15)
  have hmid : fullC (lineF b true r c 0 0) = true := line_mid hf0
  obtain ⟨f, hf⟩ : ∃ f : Int → UInt8, ∀ m, f m = lineF b true r c m 0 := ⟨_, fun _ => rfl⟩
  obtain ⟨sr, hsr⟩ : ∃ sr : Int → Int, ∀ m, sr m = (dirSq true r c m).1 := ⟨_, fun _ => rfl⟩
  obtain ⟨sc, hsc⟩ : ∃ sc : Int → Int, ∀ m, sc m = (dirSq true r c m).2 := ⟨_, fun _ => rfl⟩
  have HAC : Hid (∀ m W, -20 ≤ m ∧ m ≤ 20 → Calls Tryz.prog 344 #[.agg #[], .int .i64 r, .int .i64 c, .int .i64 m] W fun e w' => e = .returned (.agg #[.int .i64 (sr m), .int .i64 (sc m)]) ∧ Below W.heap.size W w') := Lib.hid (fun m W h => by rw [hsr, hsc]; exact dat_any r c m W (by omega))
  have HON : Hid (∀ m bv W, fullC (f m) = bv → Calls Tryz.prog 191 #[.agg #[.int .i64 b.size, .string b.premium, .string b.cells], .agg #[.int .i64 (sr m), .int .i64 (sc m)]] W fun e w' => e = .returned (.bool bv) ∧ Below W.heap.size W w') := Lib.hid (fun m bv W e => by rw [← e, hf, hsr, hsc]; exact on_any b n _ _ W hb0)
  have HSL : Hid (seqL b true r c = (List.range (seqU b true r c + 1 + seqD b true r c)).map fun j : Nat => (sr ((j : Int) - seqU b true r c), sc ((j : Int) - seqU b true r c))) := Lib.hid (List.map_congr_left fun j _ => by rw [hsr, hsc])
  simp only [← hf] at HLO HHI HBE HBH hmid
  have HMID := Lib.hid hmid
  rw [HSL.out]
  clear hb0 hi hf0 hf hsr hsc hmid HSL
  generalize seqU b true r c = u at *
  generalize seqD b true r c = d at *
  generalize hSQ : (List.range (u + 1 + d)).map (fun j : Nat => (sr ((j : Int) - u), sc ((j : Int) - u))) = SQ at *
  have HTK : Hid (∀ k, k < u + 1 + d → SQ.take (k + 1) = SQ.take k ++ [(sr ((k : Int) - u), sc ((k : Int) - u))]) := Lib.hid (fun k h => by
    rw [← hSQ]
    exact take_range (fun j : Nat => (sr ((j : Int) - u), sc ((j : Int) - u))) h)
  have HSLN : Hid (SQ.length = u + 1 + d) := Lib.hid (by rw [← hSQ]; simp)
  clear hSQ
  obtain ⟨w2, hw2⟩ : ∃ w2, w2 = (w.alloc (.cells #[.int .i64 b.size, .string b.premium, .string b.cells] 25)).alloc (.cells #[.int .i64 r, .int .i64 c] 73) := ⟨_, rfl⟩
  have hb : Below w.heap.size w w2 := by rw [hw2]; exact ((Below.refl _ _).alloc (Nat.le_refl _) _).alloc (by simp) _
  have VB : Hid (VarAt w2 w.heap.size 25 [.int .i64 b.size, .string b.premium, .string b.cells]) := by
    rw [hw2]
    exact Lib.hid ((VarAt.new w 25 [.int .i64 b.size, .string b.premium, .string b.cells]).kept ((Below.refl _ _).alloc (Nat.le_refl _) _))
  have VS : Hid (VarAt w2 (w.heap.size + 1) 73 [.int .i64 r, .int .i64 c]) := by
    rw [hw2]
    have := VarAt.new (w.alloc (.cells #[.int .i64 b.size, .string b.premium, .string b.cells] 25)) 73 [.int .i64 r, .int .i64 c]
    simp only [World.size_alloc] at this
    exact Lib.hid this
  have HW2 := Lib.hid hw2
  clear hw2
  rw [show dirV true = .iface 255 (.agg #[]) from rfl]
  go_enter Tryz.func241, Tryz.ntmps241
  go_upto_region 1 with fail
  rw [← HW2.out]
  clear HW2
  go_wp2_with fail
  go_loopw [7] (fun iv wr => ∃ (j : Nat) (m : Int), j ≤ u ∧ m + j = 0 ∧ iv = .int .i64 m ∧ Hid (VarAt wr w.heap.size 25 [.int .i64 b.size, .string b.premium, .string b.cells]) ∧ Hid (VarAt wr (w.heap.size + 1) 73 [.int .i64 r, .int .i64 c]) ∧ Below w.heap.size w wr) (fun iv _ => (intOf iv + 17).toNat)
  case atStart => exact ⟨0, 0, Nat.zero_le _, rfl, rfl, VB, VS, hb⟩
  case round =>
    clear VB VS hb
    obtain ⟨j, m, hj, hmj, rfl, VB, VS, hb⟩ := hrel
    by_cases hju : j < u
    · have h1 := HLO.out j hju
      rw [show -1 - (j : Int) = m - 1 from by omega] at h1
      have HBV := Lib.hid h1
      clear h1
      have wr1 : IntKind.i64.wrap (m - 1) = m - 1 := IntWalk.i64_in _ (by omega)
      go_upto_region 2 with fail
      have hd : Below wr.heap.size wr wr.drew := (Below.refl _ _).drew
      replace hb := hb.trans (hd.mono hb.size)
      replace VB := Lib.hid (VB.out.kept hd)
      replace VS := Lib.hid (VS.out.kept hd)
      clear hd
      go_region_held3 (fun w' => w'.cell? ⟨w.heap.size, 0, none⟩ = some (.int .i64 b.size) ∧ w'.cell? ⟨w.heap.size, 1, none⟩ = some (.string b.premium) ∧ w'.cell? ⟨w.heap.size, 2, none⟩ = some (.string b.cells) ∧ w'.cell? ⟨w.heap.size + 1, 0, none⟩ = some (.int .i64 r) ∧ w'.cell? ⟨w.heap.size + 1, 1, none⟩ = some (.int .i64 c))
        (exact ⟨VB.out.cell (i := 0) rfl, VB.out.cell (i := 1) rfl, VB.out.cell (i := 2) rfl, VS.out.cell (i := 0) rfl, VS.out.cell (i := 1) rfl⟩)
        (((first | (go_at_call 344; refine (HAC.out (m - 1) _ (by omega)).mono ?_; rintro e wq ⟨rfl, hd⟩) | (go_at_call 191; refine (HON.out (m - 1) true _ HBV.out).mono ?_; rintro e wq ⟨rfl, hd⟩)); replace VB := Lib.hid (VB.out.kept hd); replace VS := Lib.hid (VS.out.kept hd); replace hb := hb.trans (hd.mono hb.size); clear hd))
      clear HBV wr1
      go_wp2
      go_roundw
      case rel => exact ⟨j + 1, m - 1, by omega, by omega, by go_num, VB, VS, hb⟩
      case measure => simp [intOf]; omega
    · obtain rfl : j = u := by omega
      have h1 := HBE.out
      rw [show -1 - (j : Int) = m - 1 from by omega] at h1
      have HBV := Lib.hid h1
      clear h1
      have wr1 : IntKind.i64.wrap (m - 1) = m - 1 := IntWalk.i64_in _ (by omega)
      go_upto_region 2 with fail
      have hd : Below wr.heap.size wr wr.drew := (Below.refl _ _).drew
      replace hb := hb.trans (hd.mono hb.size)
      replace VB := Lib.hid (VB.out.kept hd)
      replace VS := Lib.hid (VS.out.kept hd)
      clear hd
      go_region_held3 (fun w' => w'.cell? ⟨w.heap.size, 0, none⟩ = some (.int .i64 b.size) ∧ w'.cell? ⟨w.heap.size, 1, none⟩ = some (.string b.premium) ∧ w'.cell? ⟨w.heap.size, 2, none⟩ = some (.string b.cells) ∧ w'.cell? ⟨w.heap.size + 1, 0, none⟩ = some (.int .i64 r) ∧ w'.cell? ⟨w.heap.size + 1, 1, none⟩ = some (.int .i64 c))
        (exact ⟨VB.out.cell (i := 0) rfl, VB.out.cell (i := 1) rfl, VB.out.cell (i := 2) rfl, VS.out.cell (i := 0) rfl, VS.out.cell (i := 1) rfl⟩)
        (((first | (go_at_call 344; refine (HAC.out (m - 1) _ (by omega)).mono ?_; rintro e wq ⟨rfl, hd⟩) | (go_at_call 191; refine (HON.out (m - 1) false _ HBV.out).mono ?_; rintro e wq ⟨rfl, hd⟩)); replace VB := Lib.hid (VB.out.kept hd); replace VS := Lib.hid (VS.out.kept hd); replace hb := hb.trans (hd.mono hb.size); clear hd))
      clear HBV wr1
      generalize wq = w5 at *
      have HO : Hid ((w5.alloc (.cells #[] 73)).ownsRow (w.heap.size + 2) 73 2 (.slice (some ⟨w5.heap.size, 0, none⟩) 0 0) 0 ((SQ.take 0).flatMap Sq.enc)) := Lib.hid (World.ownsRow_made (base := w.heap.size + 2) (e := 73) (size := 2) w5 #[] 0 (by have := VS.out.lt; omega) (by unfold maxLen; omega) rfl)
      have hd : Below w5.heap.size w5 (w5.alloc (.cells #[] 73)) := (Below.refl _ _).alloc (Nat.le_refl _) _
      replace hb := hb.trans (hd.mono hb.size)
      replace VB := Lib.hid (VB.out.kept hd)
      replace VS := Lib.hid (VS.out.kept hd)
      clear hd
      go_wp2_with fail
      go_loopw [8, 9] (fun ov iv wr => ∃ (k g1 cap : Nat) (x : Int), k ≤ j + 1 + d ∧ x + j = k ∧ iv = .int .i64 x ∧ ov = .slice (some ⟨g1, 0, none⟩) k cap ∧ Hid (wr.ownsRow (w.heap.size + 2) 73 2 (.slice (some ⟨g1, 0, none⟩) k cap) k ((SQ.take k).flatMap Sq.enc)) ∧ Hid (VarAt wr w.heap.size 25 [.int .i64 b.size, .string b.premium, .string b.cells]) ∧ Hid (VarAt wr (w.heap.size + 1) 73 [.int .i64 r, .int .i64 c]) ∧ Below w.heap.size w wr) (fun _ iv _ => (17 - intOf iv).toNat)
      case atStart => exact ⟨0, _, 0, m, Nat.zero_le _, by omega, rfl, rfl, HO, VB, VS, hb⟩
      case round =>
        clear VB VS hb HO hmj
        obtain ⟨k, g1, cap, x, hk, hxk, rfl, rfl, HO, VB, VS, hb⟩ := hrel
        by_cases hkl : k < j + 1 + d
        · have h1 : fullC (f x) = true := by
            by_cases h2 : k < j
            · have h3 := HLO.out (j - 1 - k) (by omega)
              rwa [show -1 - ((j - 1 - k : Nat) : Int) = x from by omega] at h3
            · by_cases h4 : k = j
              · rw [show x = 0 from by omega]
                exact HMID.out
              · have h3 := HHI.out (k - j - 1) (by omega)
                rwa [show 1 + ((k - j - 1 : Nat) : Int) = x from by omega] at h3
          have HBV := Lib.hid h1
          clear h1
          go_upto_region 6 with fail
          have hd : Below wr.heap.size wr wr.drew := (Below.refl _ _).drew
          replace hb := hb.trans (hd.mono hb.size)
          replace HO := Lib.hid (own_below HO.out hd)
          replace VB := Lib.hid (VB.out.kept hd)
          replace VS := Lib.hid (VS.out.kept hd)
          clear hd
          go_region_held3 (fun w' => w'.cell? ⟨w.heap.size, 0, none⟩ = some (.int .i64 b.size) ∧ w'.cell? ⟨w.heap.size, 1, none⟩ = some (.string b.premium) ∧ w'.cell? ⟨w.heap.size, 2, none⟩ = some (.string b.cells) ∧ w'.cell? ⟨w.heap.size + 1, 0, none⟩ = some (.int .i64 r) ∧ w'.cell? ⟨w.heap.size + 1, 1, none⟩ = some (.int .i64 c))
            (exact ⟨VB.out.cell (i := 0) rfl, VB.out.cell (i := 1) rfl, VB.out.cell (i := 2) rfl, VS.out.cell (i := 0) rfl, VS.out.cell (i := 1) rfl⟩)
            (((first | (go_at_call 344; refine (HAC.out x _ (by omega)).mono ?_; rintro e wq ⟨rfl, hd⟩) | (go_at_call 191; refine (HON.out x true _ HBV.out).mono ?_; rintro e wq ⟨rfl, hd⟩)); replace HO := Lib.hid (own_below HO.out hd); replace VB := Lib.hid (VB.out.kept hd); replace VS := Lib.hid (VS.out.kept hd); replace hb := hb.trans (hd.mono hb.size); clear hd))
          generalize wq = w6 at *
          clear HBV
          have HT : Hid (SQ.take (k + 1) = SQ.take k ++ [(sr x, sc x)]) := Lib.hid (by rw [HTK.out k hkl, show (k : Int) - j = x from by omega])
          have s0 := VS.out.cell (i := 0) rfl
          have s1 := VS.out.cell (i := 1) rfl
          go_wp2_with fail
          clear s0 s1
          refine (HAC.out x _ (by omega)).mono ?_
          rintro e w7 ⟨rfl, hd⟩
          replace hb := hb.trans (hd.mono hb.size)
          replace HO := Lib.hid (own_below HO.out hd)
          replace VB := Lib.hid (VB.out.kept hd)
          replace VS := Lib.hid (VS.out.kept hd)
          clear hd
          have hd : Below w7.heap.size w7 (w7.alloc (.cells #[.int .i64 (sr x), .int .i64 (sc x)] 73)) := (Below.refl _ _).alloc (Nat.le_refl _) _
          have KN := Lib.hid (new_sq w7 (sr x, sc x) 73)
          have hz4 := VS.out.lt
          replace hb := hb.trans (hd.mono hb.size)
          replace HO := Lib.hid (own_below HO.out hd)
          replace VB := Lib.hid (VB.out.kept hd)
          replace VS := Lib.hid (VS.out.kept hd)
          clear hd
          go_wp2_with (at_builtin; go_must (refine wpList_append_lies _ rfl (.tmp 35) (.tmp 43) 65 rfl (w.heap.size + 2) 73 i0 _ 2 16 Tryz.underlying65 hi0 hi1 hi2 hi3 rfl (by decide) _ k ((SQ.take k).flatMap Sq.enc) (by rfl) HO.out ⟨w7.heap.size, 0, none⟩ 1 1 (Sq.enc (sr x, sc x)) (by rfl) rfl KN.out (sq_one (sr x, sc x)) (by decide) ?c1 ?c2 ?c3 _ rfl ?_))
          case c1 => unfold maxLen; omega
          case c2 => omega
          case c3 => (first | omega | (simp only [World.size_alloc]; omega))
          intro g7 cap7 w8 hown hgr hwh hlt7
          have hb8 := hb.grown hgr hb.size (fun q e => by have := (HO.out.lt q e).1; omega)
          have HO8 : Hid (w8.ownsRow (w.heap.size + 2) 73 2 (.slice (some ⟨g7, 0, none⟩) (k + 1) cap7) (k + 1) ((SQ.take (k + 1)).flatMap Sq.enc)) := Lib.hid (by rw [HT.out, snoc_flat Sq.enc]; exact hown)
          have VB8 := Lib.hid (VB.out.grown hgr (own_ne HO.out (by omega)))
          have VS8 := Lib.hid (VS.out.grown hgr (own_ne HO.out (by omega)))
          clear hown hgr hwh KN HO hb VB VS HT
          go_wp2
          go_roundw
          case rel => exact ⟨k + 1, g7, cap7, x + 1, by omega, by omega, by go_num, by go_num, HO8, VB8, VS8, hb8⟩
          case measure => simp [intOf]; omega
        · have h1 : fullC (f x) = false := by
            have h3 := HBH.out
            rwa [show 1 + (d : Int) = x from by omega] at h3
          have HBV := Lib.hid h1
          clear h1
          go_upto_region 6 with fail
          have hd : Below wr.heap.size wr wr.drew := (Below.refl _ _).drew
          replace hb := hb.trans (hd.mono hb.size)
          replace HO := Lib.hid (own_below HO.out hd)
          replace VB := Lib.hid (VB.out.kept hd)
          replace VS := Lib.hid (VS.out.kept hd)
          clear hd
          go_region_held3 (fun w' => w'.cell? ⟨w.heap.size, 0, none⟩ = some (.int .i64 b.size) ∧ w'.cell? ⟨w.heap.size, 1, none⟩ = some (.string b.premium) ∧ w'.cell? ⟨w.heap.size, 2, none⟩ = some (.string b.cells) ∧ w'.cell? ⟨w.heap.size + 1, 0, none⟩ = some (.int .i64 r) ∧ w'.cell? ⟨w.heap.size + 1, 1, none⟩ = some (.int .i64 c))
            (exact ⟨VB.out.cell (i := 0) rfl, VB.out.cell (i := 1) rfl, VB.out.cell (i := 2) rfl, VS.out.cell (i := 0) rfl, VS.out.cell (i := 1) rfl⟩)
            (((first | (go_at_call 344; refine (HAC.out x _ (by omega)).mono ?_; rintro e wq ⟨rfl, hd⟩) | (go_at_call 191; refine (HON.out x false _ HBV.out).mono ?_; rintro e wq ⟨rfl, hd⟩)); replace HO := Lib.hid (own_below HO.out hd); replace VB := Lib.hid (VB.out.kept hd); replace VS := Lib.hid (VS.out.kept hd); replace hb := hb.trans (hd.mono hb.size); clear hd))
          generalize wq = w6 at *
          clear HBV
          have hO := HO.out
          rw [List.take_of_length_le (by rw [HSLN.out]; omega)] at hO
          have HON2 := Lib.hid hO
          have HL : Hid (SQ.length = k) := Lib.hid (by rw [HSLN.out]; omega)
          clear hO HO
          go_wp2
          go_ret
          exact ⟨g1, cap, by rw [HL.out]; rfl, by rw [HL.out]; exact own_mono HON2.out (by omega), hb⟩
theorem sequence_any (b : Brd) (n : Nat) (d : Bool) (r c : Int) (w : World) (hb0 : b.Good n) (hi : b.inB r c = true) (hf0 : fullC (b.cell r c) = true) :
    Calls Tryz.prog 241 #[.agg #[.int .i64 b.size, .string b.premium, .string b.cells], .agg #[.int .i64 r, .int .i64 c], dirV d] w (SqsPost w (seqL b d r c)) := by
  cases d
  · exact seq_across b n r c w hb0 hi hf0
  · exact seq_down b n r c w hb0 hi hf0
end Go.Proofs.YtjdcdhhbgijaoaaGreatDoor

namespace Go.Proofs.YtjdcdhhbgijaoaaGreatDoor
open Go.ChangeShapes Go.WideShapes Go.ChangeAt Go.RowKit Go.Sort

/-- the squares of the word across, at an offset -/
def crossS (b : Brd) (p : Ply) (i : Nat) : List (Int × Int) := seqL (b.made p) (!p.down) (p.sr i) (p.sc i)
def crossTo (b : Brd) (p : Ply) (is : List Nat) : List Nat := is.filter fun i => decide (2 ≤ (crossS b p i).length)
/-- an offset, and where the squares of its word across lie -/
structure Ent where
  i : Nat
  g : Nat
  cap : Nat
def Ent.enc (sq : Nat → List (Int × Int)) (e : Ent) : List Value := [.slice (some ⟨e.g, 0, none⟩) (sq e.i).length e.cap]
theorem Ent.enc_len (sq : Nat → List (Int × Int)) (e : Ent) : (Ent.enc sq e).length = 1 := rfl
theorem ent_one (sq : Nat → List (Int × Int)) (e : Ent) : ∀ u ∈ Ent.enc sq e, u.oneCell' = true := by
  intro u hu
  simp only [Ent.enc, List.mem_cons, List.not_mem_nil, or_false] at hu
  rw [hu]; rfl
theorem new_ent (w : World) (sq : Nat → List (Int × Int)) (e : Ent) (t : TypeId) : ∀ j u, (Ent.enc sq e)[j]? = some u → (w.alloc (.cells #[.slice (some ⟨e.g, 0, none⟩) (sq e.i).length e.cap] t)).cell? ((⟨w.heap.size, 0, none⟩ : Addr).add j) = some u := by
  intro j u hu
  rw [Go.Addr.add_lit, Nat.zero_add]
  match j, hu with
  | 0, hu =>
    simp only [Ent.enc, List.getElem?_cons_zero, Option.some.injEq] at hu
    subst hu
    exact cell_new0 w _ t rfl
  | j + 1, hu => simp [Ent.enc] at hu
theorem infoSqs : (Tryz.prog.info? 65).map (fun i => (i.zero, i.size, i.bytes)) = some (some (.slice none 0 0), 1, 24) := by kernel_rfl
/-- the rows of the words' squares -/
def EntsAt (w : World) (base : Nat) (sq : Nat → List (Int × Int)) (es : List Ent) : Prop :=
  ∀ e ∈ es, w.ownsRow base 73 2 (.slice (some ⟨e.g, 0, none⟩) (sq e.i).length e.cap) (sq e.i).length ((sq e.i).flatMap Sq.enc)
theorem EntsAt.kept {w w' : World} {base : Nat} {sq : Nat → List (Int × Int)} {es : List Ent} (h : EntsAt w base sq es) (hb : Below w.heap.size w w') : EntsAt w' base sq es := fun e he => own_below (h e he) hb
theorem EntsAt.grown {w w' : World} {base : Nat} {sq : Nat → List (Int × Int)} {es : List Ent} (h : EntsAt w base sq es) {g : Nat} (hg : w.grownBy w' (some g)) (hne : ∀ e ∈ es, e.g ≠ g) : EntsAt w' base sq es := fun e he =>
  (h e he).kept hg (.inr (by simp [Value.ownBlock]; exact hne e he))
theorem EntsAt.mono {w : World} {base base' : Nat} {sq : Nat → List (Int × Int)} {es : List Ent} (h : EntsAt w base sq es) (hb : base' ≤ base) : EntsAt w base' sq es := fun e he => own_mono (h e he) hb
theorem EntsAt.snoc {w : World} {base : Nat} {sq : Nat → List (Int × Int)} {es : List Ent} (h : EntsAt w base sq es) {e : Ent} (he : w.ownsRow base 73 2 (.slice (some ⟨e.g, 0, none⟩) (sq e.i).length e.cap) (sq e.i).length ((sq e.i).flatMap Sq.enc)) : EntsAt w base sq (es ++ [e]) := by
  intro x hx
  rcases List.mem_append.1 hx with h1 | h1
  · exact h x h1
  · rw [List.mem_singleton.1 h1]; exact he
theorem EntsAt.lt {w : World} {base : Nat} {sq : Nat → List (Int × Int)} {es : List Ent} (h : EntsAt w base sq es) : ∀ e ∈ es, e.g < w.heap.size := fun e he => ((h e he).lt e.g rfl).2
/-- what crossings returns -/
def CrossPost (sq : Nat → List (Int × Int)) (sqr : Nat → Int × Int) (is : List Nat) (w : World) (e : Ending) (w' : World) : Prop :=
  ∃ (es : List Ent) (g1 c1 g2 c2 : Nat), es.map Ent.i = is ∧ e = .returned (.tuple #[.slice (some ⟨g1, 0, none⟩) es.length c1, .slice (some ⟨g2, 0, none⟩) es.length c2]) ∧
    w'.ownsRow w.heap.size 73 2 (.slice (some ⟨g1, 0, none⟩) es.length c1) es.length ((es.map fun e => sqr e.i).flatMap Sq.enc) ∧
    w'.ownsRow w.heap.size 65 1 (.slice (some ⟨g2, 0, none⟩) es.length c2) es.length (es.flatMap (Ent.enc sq)) ∧ EntsAt w' w.heap.size sq es ∧ Below w.heap.size w w'
theorem row_sq {w : World} {base gf cap : Nat} {xs : List (Int × Int)} {n : Nat} (h : w.ownsRow base 73 2 (.slice (some ⟨gf, 0, none⟩) n cap) n (xs.flatMap Sq.enc)) {k : Nat} (hk : k < xs.length) :
    w.cell? ⟨gf, k * 2, none⟩ = some (.int .i64 xs[k].1) ∧ w.cell? ⟨gf, k * 2 + 1, none⟩ = some (.int .i64 xs[k].2) := by
  have h0 := own_news0 h (k * 2) (.int .i64 xs[k].1) (by
    have := flatMap_get (enc := Sq.enc) (sz := 2) Sq.enc_len xs hk (j := 0) (by omega)
    rw [Nat.add_zero] at this
    rw [this]; rfl)
  have h1 := own_news0 h (k * 2 + 1) (.int .i64 xs[k].2) (by
    have := flatMap_get (enc := Sq.enc) (sz := 2) Sq.enc_len xs hk (j := 1) (by omega)
    rw [this]; rfl)
  rw [Go.Addr.add_lit, Nat.zero_add] at h0 h1
  exact ⟨h0, h1⟩
theorem filter_snoc {p : Nat → Bool} {l : List Nat} {i : Nat} : (l ++ [i]).filter p = l.filter p ++ if p i then [i] else [] := by
  rw [List.filter_append]
  congr 1
  simp only [List.filter_cons, List.filter_nil]
/-- on the board after a play its own squares have letters -/
theorem PGood.made_full {b : Brd} {p : Ply} {n : Nat} (h : PGood b p n) {k : Nat} (hk : k < p.word.size) : fullC ((b.made p).cell (p.sr k) (p.sc k)) = true ∧ (b.made p).inB (p.sr k) (p.sc k) = true := by
  have hi : (b.made p).inB (p.sr k) (p.sc k) = true := by
    rw [h.made_good.inB]
    exact h.sq_in hk
  refine ⟨?_, hi⟩
  rw [h.made_good.full_eq hi]
  have e : (b.made p).cell (p.sr k) (p.sc k) = p.word[k] := by
    rw [h.made_good.sq p k, show (b.made p).view p p.r (p.c + k) = _ from h.made_in hk, getD_byt hk]
  rw [e]
  have hl := List.all_eq_true.1 h.letters p.word[k] (by rw [← bytes_get p.word k hk]; exact List.getElem_mem _)
  rw [bne_iff_ne]
  intro e2
  rw [e2] at hl
  revert hl
  decide
set_option maxRecDepth 100000 in
set_option maxHeartbeats 8000000 in
theorem cross_down (b : Brd) (r c : Int) (s : ByteArray) (n : Nat) (w : World) (hp : PGood b ⟨r, c, true, s⟩ n) :
    Calls Tryz.prog 176 #[.agg #[.int .i64 b.size, .string b.premium, .string b.cells], .agg #[.int .i64 r, .int .i64 c, .bool true, .string s]] w (CrossPost (crossS b ⟨r, c, true, s⟩) (sqOf ⟨r, c, true, s⟩) (crossTo b ⟨r, c, true, s⟩ (b.fresh ⟨r, c, true, s⟩)) w) := by
  obtain ⟨i0, hi0, hi1, hi2, hi3⟩ := info_parts infoSq
  obtain ⟨j0, hj0, hj1, hj2, hj3⟩ := info_parts infoSqs
  have hs12 := hp.twelve
  obtain ⟨w2, hw2⟩ : ∃ w2, w2 = (w.alloc (.cells #[.int .i64 b.size, .string b.premium, .string b.cells] 25)).alloc (.cells #[.int .i64 r, .int .i64 c, .bool true, .string s] 30) := ⟨_, rfl⟩
  have hb : Below w.heap.size w w2 := by rw [hw2]; exact ((Below.refl _ _).alloc (Nat.le_refl _) _).alloc (by simp) _
  have VB : Hid (VarAt w2 w.heap.size 25 [.int .i64 b.size, .string b.premium, .string b.cells]) := by
    rw [hw2]
    exact Lib.hid ((VarAt.new w 25 [.int .i64 b.size, .string b.premium, .string b.cells]).kept ((Below.refl _ _).alloc (Nat.le_refl _) _))
  have VP : Hid (VarAt w2 (w.heap.size + 1) 30 [.int .i64 r, .int .i64 c, .bool true, .string s]) := by
    rw [hw2]
    have := VarAt.new (w.alloc (.cells #[.int .i64 b.size, .string b.premium, .string b.cells] 25)) 30 [.int .i64 r, .int .i64 c, .bool true, .string s]
    simp only [World.size_alloc] at this
    exact Lib.hid this
  have HMD : Hid (∀ W, Calls Tryz.prog 84 #[.agg #[.int .i64 b.size, .string b.premium, .string b.cells], .agg #[.int .i64 r, .int .i64 c, .bool true, .string s]] W fun e w' => e = .returned (.agg #[.int .i64 (b.made ⟨r, c, true, s⟩).size, .string (b.made ⟨r, c, true, s⟩).premium, .string (b.made ⟨r, c, true, s⟩).cells]) ∧ Below W.heap.size W w') := Lib.hid (fun W => made_any b ⟨r, c, true, s⟩ n W hp)
  have HNS : Hid (∀ W, Calls Tryz.prog 121 #[.agg #[.int .i64 b.size, .string b.premium, .string b.cells], .agg #[.int .i64 r, .int .i64 c, .bool true, .string s]] W (NewPost ⟨r, c, true, s⟩ (b.fresh ⟨r, c, true, s⟩) W)) := Lib.hid (fun W => newSquares_any b ⟨r, c, true, s⟩ n W hp)
  have HSEQ : Hid (∀ i, i < s.size → ∀ W, Calls Tryz.prog 241 #[.agg #[.int .i64 (b.made ⟨r, c, true, s⟩).size, .string (b.made ⟨r, c, true, s⟩).premium, .string (b.made ⟨r, c, true, s⟩).cells], .agg #[.int .i64 (sqOf ⟨r, c, true, s⟩ i).1, .int .i64 (sqOf ⟨r, c, true, s⟩ i).2], .iface 256 (.agg #[])] W (SqsPost W (crossS b ⟨r, c, true, s⟩ i))) := Lib.hid (fun i h W => sequence_any (b.made ⟨r, c, true, s⟩) n false _ _ W hp.made_good (hp.made_full h).2 (hp.made_full h).1)
  have HLT : Hid (∀ i ∈ b.fresh ⟨r, c, true, s⟩, i < s.size) := Lib.hid (fun i h => (freshL_lt h).1)
  have hfl : (b.fresh ⟨r, c, true, s⟩).length ≤ s.size := freshL_len _ _ _ _
  have HCT : Hid (∀ is i, crossTo b ⟨r, c, true, s⟩ (is ++ [i]) = crossTo b ⟨r, c, true, s⟩ is ++ if 2 ≤ (crossS b ⟨r, c, true, s⟩ i).length then [i] else []) := Lib.hid (fun is i => by
    unfold crossTo
    rw [filter_snoc]
    simp only [decide_eq_true_eq])
  have HC0 : Hid (crossTo b ⟨r, c, true, s⟩ [] = []) := Lib.hid rfl
  have HCL : Hid (∀ is, (crossTo b ⟨r, c, true, s⟩ is).length ≤ is.length) := Lib.hid (fun is => List.length_filter_le _ _)
  have HW2 := Lib.hid hw2
  clear hw2 hp
  generalize b.made ⟨r, c, true, s⟩ = af at *
  generalize b.fresh ⟨r, c, true, s⟩ = fr at *
  generalize crossTo b ⟨r, c, true, s⟩ = ct at *
  generalize crossS b ⟨r, c, true, s⟩ = sq at *
  generalize hsqr : sqOf ⟨r, c, true, s⟩ = sqr at *
  have HSQR := Lib.hid hsqr
  clear hsqr
  go_enter Tryz.func176, Tryz.ntmps176
  go_upto_region 1 with fail
  rw [← HW2.out]
  clear HW2
  have b0 := VB.out.cell (i := 0) rfl
  have b1 := VB.out.cell (i := 1) rfl
  have b2 := VB.out.cell (i := 2) rfl
  have p0 := VP.out.cell (i := 0) rfl
  have p1 := VP.out.cell (i := 1) rfl
  have p2 := VP.out.cell (i := 2) rfl
  have p3 := VP.out.cell (i := 3) rfl
  go_wp2_with fail
  refine (HMD.out _).mono ?_
  rintro e w3 ⟨rfl, hd⟩
  have hz3 := VP.out.lt
  have hz3' := hd.size
  replace hb := hb.trans (hd.mono hb.size)
  replace b0 := cell_kept b0 hd
  replace b1 := cell_kept b1 hd
  replace b2 := cell_kept b2 hd
  replace p0 := cell_kept p0 hd
  replace p1 := cell_kept p1 hd
  replace p2 := cell_kept p2 hd
  replace p3 := cell_kept p3 hd
  replace VB := Lib.hid (VB.out.kept hd)
  replace VP := Lib.hid (VP.out.kept hd)
  clear hd
  have VA := Lib.hid (VarAt.new w3 25 [.int .i64 af.size, .string af.premium, .string af.cells])
  have hd : Below w3.heap.size w3 (w3.alloc (.cells #[.int .i64 af.size, .string af.premium, .string af.cells] 25)) := (Below.refl _ _).alloc (Nat.le_refl _) _
  replace hb := hb.trans (hd.mono hb.size)
  replace b0 := cell_kept b0 hd
  replace b1 := cell_kept b1 hd
  replace b2 := cell_kept b2 hd
  replace p0 := cell_kept p0 hd
  replace p1 := cell_kept p1 hd
  replace p2 := cell_kept p2 hd
  replace p3 := cell_kept p3 hd
  replace VB := Lib.hid (VB.out.kept hd)
  replace VP := Lib.hid (VP.out.kept hd)
  clear hd
  have hza := VA.out.lt
  go_wp2_with fail
  refine (HNS.out _).mono ?_
  rintro e w5 ⟨gs, cs, gp, cpl, rfl, hne, hx0, _, hd⟩
  rw [HSQR.out] at hx0
  have HX := Lib.hid (own_mono hx0 (show w3.heap.size + 1 ≤ _ by omega))
  clear hx0 hne HSQR b0 b1 b2 p0 p1 p2 p3 VB
  replace hb := hb.trans (hd.mono hb.size)
  replace VP := Lib.hid (VP.out.kept hd)
  replace VA := Lib.hid (VA.out.kept hd)
  clear hd
  have hgs := (HX.out.lt gs rfl).2
  have hwz : w3.heap.size + 1 ≤ w5.heap.size := by have := VA.out.lt; omega
  have HO : Hid (((w5.alloc (.cells #[] 73)).alloc (.cells #[] 65)).ownsRow (w3.heap.size + 1) 73 2 (.slice (some ⟨w5.heap.size, 0, none⟩) 0 0) 0 []) := Lib.hid (own_below (World.ownsRow_made (base := w3.heap.size + 1) (e := 73) (size := 2) w5 #[] 0 (by omega) (by unfold maxLen; omega) rfl) ((Below.refl _ _).alloc (Nat.le_refl _) _))
  have HW : Hid (((w5.alloc (.cells #[] 73)).alloc (.cells #[] 65)).ownsRow (w3.heap.size + 1) 65 1 (.slice (some ⟨w5.heap.size + 1, 0, none⟩) 0 0) 0 []) := by
    have := World.ownsRow_made (base := w3.heap.size + 1) (e := 65) (size := 1) (w5.alloc (.cells #[] 73)) #[] 0 (by simp; omega) (by unfold maxLen; omega) rfl
    simp only [World.size_alloc] at this
    exact Lib.hid this
  have hd : Below w5.heap.size w5 ((w5.alloc (.cells #[] 73)).alloc (.cells #[] 65)) := ((Below.refl _ _).alloc (Nat.le_refl _) _).alloc (by simp) _
  replace hb := hb.trans (hd.mono hb.size)
  replace HX := Lib.hid (own_below HX.out hd)
  replace VP := Lib.hid (VP.out.kept hd)
  replace VA := Lib.hid (VA.out.kept hd)
  clear hd
  have HS : Hid (EntsAt ((w5.alloc (.cells #[] 73)).alloc (.cells #[] 65)) (w3.heap.size + 1) sq []) := Lib.hid (fun e he => by cases he)
  have hgs2 := (HX.out.lt gs rfl).2
  generalize hfrl : fr.length = m at *
  go_wp2_with fail
  go_loopw [9, 10, 27] (fun ov xv iv wr => ∃ (k : Nat) (es : List Ent) (ne g1 c1 g2 c2 : Nat), k ≤ m ∧ iv = .int .i64 k ∧ ov = .slice (some ⟨g1, 0, none⟩) ne c1 ∧ xv = .slice (some ⟨g2, 0, none⟩) ne c2 ∧ Hid (es.length = ne) ∧ Hid (es.map Ent.i = ct (fr.take k)) ∧ g1 ≠ g2 ∧ gs ≠ g1 ∧ gs ≠ g2 ∧ Hid (∀ e ∈ es, e.g ≠ g1 ∧ e.g ≠ g2) ∧ gs < wr.heap.size ∧ Hid (wr.ownsRow (w3.heap.size + 1) 73 2 (.slice (some ⟨g1, 0, none⟩) ne c1) ne ((es.map fun e => sqr e.i).flatMap Sq.enc)) ∧ Hid (wr.ownsRow (w3.heap.size + 1) 65 1 (.slice (some ⟨g2, 0, none⟩) ne c2) ne (es.flatMap (Ent.enc sq))) ∧ Hid (EntsAt wr (w3.heap.size + 1) sq es) ∧ Hid (wr.ownsRow (w3.heap.size + 1) 73 2 (.slice (some ⟨gs, 0, none⟩) m cs) m ((fr.map sqr).flatMap Sq.enc)) ∧ Hid (VarAt wr (w.heap.size + 1) 30 [.int .i64 r, .int .i64 c, .bool true, .string s]) ∧ Hid (VarAt wr w3.heap.size 25 [.int .i64 af.size, .string af.premium, .string af.cells]) ∧ Below w.heap.size w wr) (fun _ _ iv _ => m - (intOf iv).toNat)
  case atStart => exact ⟨0, [], 0, _, 0, _, 0, Nat.zero_le _, rfl, rfl, rfl, Lib.hid rfl, Lib.hid (by rw [List.take_zero, HC0.out]; rfl), by omega, by omega, by omega, Lib.hid (fun e he => by cases he), hgs2, HO, HW, HS, HX, VP, VA, hb⟩
  case round =>
    clear HO HW HS HX VP VA hb hgs hgs2 hza hwz
    obtain ⟨k, es, ne, g1, c1, g2, c2, hk, rfl, rfl, rfl, HNE, HES, h12, hs1, hs2, HEN, hgs, HO, HW, HS, HX, VP, VA, hb⟩ := hrel
    by_cases hkm : k < m
    · obtain ⟨i, hi⟩ : ∃ i, i = fr[k]'(by omega) := ⟨_, rfl⟩
      have hkf : k < fr.length := by omega
      have HTK := Lib.hid (take_nat hkf hi.symm)
      have his : i < s.size := by rw [hi]; exact HLT.out _ (List.getElem_mem _)
      have hrow := row_sq HX.out (k := k) (by rw [List.length_map]; exact hkf)
      rw [List.getElem_map, ← hi] at hrow
      obtain ⟨x0, x1⟩ := hrow
      have HCT2 := Lib.hid (HCT.out (fr.take k) i)
      have hne12 : ne ≤ 12 := by
        have h1 := HNE.out
        have h2 := congrArg List.length HES.out
        have h3 := HCL.out (fr.take k)
        rw [List.length_map] at h2
        have h4 : (fr.take k).length ≤ k := by rw [List.length_take]; omega
        omega
      clear hi hkf
      have HSQI := Lib.hid (HSEQ.out i his)
      go_upto_region 7 with fail
      clear x0 x1
      have VS := Lib.hid (VarAt.new wr 73 [.int .i64 (sqr i).1, .int .i64 (sqr i).2])
      have hd : Below wr.heap.size wr (wr.alloc (.cells #[.int .i64 (sqr i).1, .int .i64 (sqr i).2] 73)) := (Below.refl _ _).alloc (Nat.le_refl _) _
      replace HX := Lib.hid (own_below HX.out hd)
      replace HO := Lib.hid (own_below HO.out hd)
      replace HW := Lib.hid (own_below HW.out hd)
      replace HS := Lib.hid (HS.out.kept hd)
      replace VA := Lib.hid (VA.out.kept hd)
      replace VP := Lib.hid (VP.out.kept hd)
      replace hb := hb.trans (hd.mono hb.size)
      clear hd
      generalize wr.alloc (.cells #[.int .i64 (sqr i).1, .int .i64 (sqr i).2] 73) = w6 at *
      have hd : Below w6.heap.size w6 w6.drew := (Below.refl _ _).drew
      replace VS := Lib.hid (VS.out.kept hd)
      replace HX := Lib.hid (own_below HX.out hd)
      replace HO := Lib.hid (own_below HO.out hd)
      replace HW := Lib.hid (own_below HW.out hd)
      replace HS := Lib.hid (HS.out.kept hd)
      replace VA := Lib.hid (VA.out.kept hd)
      replace VP := Lib.hid (VP.out.kept hd)
      replace hb := hb.trans (hd.mono hb.size)
      clear hd
      go_region_held3 (fun w' => w'.cell? ⟨w3.heap.size, 0, none⟩ = some (.int .i64 af.size) ∧ w'.cell? ⟨w3.heap.size, 1, none⟩ = some (.string af.premium) ∧ w'.cell? ⟨w3.heap.size, 2, none⟩ = some (.string af.cells) ∧ w'.cell? ⟨wr.heap.size, 0, none⟩ = some (.int .i64 (sqr i).1) ∧ w'.cell? ⟨wr.heap.size, 1, none⟩ = some (.int .i64 (sqr i).2) ∧ w'.cell? ⟨w.heap.size + 1, 2, none⟩ = some (.bool true))
        (exact ⟨VA.out.cell (i := 0) rfl, VA.out.cell (i := 1) rfl, VA.out.cell (i := 2) rfl, VS.out.cell (i := 0) rfl, VS.out.cell (i := 1) rfl, VP.out.cell (i := 2) rfl⟩)
        ((first | (go_at_call 242; refine (directionOf_any true _).mono ?_; rintro e wq ⟨rfl, rfl⟩; rw [show dirV true = .iface 255 (.agg #[]) from rfl]) | (go_at_call 345; refine (dcross_any _).mono ?_; rintro e wq ⟨rfl, hd⟩; rw [show dirV false = .iface 256 (.agg #[]) from rfl]; replace HX := Lib.hid (own_below HX.out hd); replace HO := Lib.hid (own_below HO.out hd); replace HW := Lib.hid (own_below HW.out hd); replace HS := Lib.hid (HS.out.kept hd); replace VA := Lib.hid (VA.out.kept hd); replace VP := Lib.hid (VP.out.kept hd); replace VS := Lib.hid (VS.out.kept hd); replace hb := hb.trans (hd.mono hb.size); clear hd) | (go_at_call 241; refine (HSQI.out _).mono ?_; rintro e wq ⟨gq, cq, rfl, hq0, hd⟩; have HQ := Lib.hid (own_mono hq0 (show w3.heap.size + 1 ≤ _ from VA.out.lt)); have hq1 := (hq0.lt gq rfl).1; have hg1 := (HO.out.lt g1 rfl).2; have hg2 := (HW.out.lt g2 rfl).2; have hqq : gq ≠ g1 ∧ gq ≠ g2 := (by omega); clear hq0 hq1 hg1 hg2; replace HX := Lib.hid (own_below HX.out hd); replace HO := Lib.hid (own_below HO.out hd); replace HW := Lib.hid (own_below HW.out hd); replace HS := Lib.hid (HS.out.kept hd); replace VA := Lib.hid (VA.out.kept hd); replace VP := Lib.hid (VP.out.kept hd); replace VS := Lib.hid (VS.out.kept hd); replace hb := hb.trans (hd.mono hb.size); clear hd)))
      generalize wq = w7 at *
      by_cases h2 : 2 ≤ (sq i).length
      · have HES2 : Hid ((es ++ [(Ent.mk i gq cq)]).map Ent.i = ct (fr.take (k + 1))) := Lib.hid (by
          rw [HTK.out, HCT2.out, if_pos h2, List.map_append, HES.out]; rfl)
        have HMS : Hid ((es ++ [(Ent.mk i gq cq)]).map (fun e : Ent => sqr e.i) = es.map (fun e => sqr e.i) ++ [sqr i]) := Lib.hid (by rw [List.map_append]; rfl)
        have HNE2 : Hid ((es ++ [(Ent.mk i gq cq)] : List Ent).length = ne + 1) := Lib.hid (by rw [List.length_append, HNE.out]; rfl)
        have h2i : (2 : Int) ≤ ((sq i).length : Int) := by omega
        have s0 := VS.out.cell (i := 0) rfl
        have s1 := VS.out.cell (i := 1) rfl
        have hd : Below w7.heap.size w7 (w7.alloc (.cells #[.int .i64 (sqr i).1, .int .i64 (sqr i).2] 73)) := (Below.refl _ _).alloc (Nat.le_refl _) _
        have KN := Lib.hid (new_sq w7 (sqr i) 73)
        have hz7 := VA.out.lt
        replace HQ := Lib.hid (own_below HQ.out hd)
        replace VS := Lib.hid (VS.out.kept hd)
        have hgs7 := (HX.out.lt gs rfl).2
        replace HX := Lib.hid (own_below HX.out hd)
        replace HO := Lib.hid (own_below HO.out hd)
        replace HW := Lib.hid (own_below HW.out hd)
        replace HS := Lib.hid (HS.out.kept hd)
        replace VA := Lib.hid (VA.out.kept hd)
        replace VP := Lib.hid (VP.out.kept hd)
        replace hb := hb.trans (hd.mono hb.size)
        clear hd
        have hl2 := (HW.out.lt g2 rfl).2
        have hlx := (HX.out.lt gs rfl).2
        have hlq := (HQ.out.lt gq rfl).2
        have HEL := Lib.hid HS.out.lt
        go_wp2_with (at_builtin; go_must (refine wpList_append_lies _ rfl (.tmp 41) (.tmp 43) 65 rfl (w3.heap.size + 1) 73 i0 _ 2 16 Tryz.underlying65 hi0 hi1 hi2 hi3 rfl (by decide) _ ne ((es.map fun e => sqr e.i).flatMap Sq.enc) (by rfl) HO.out ⟨w7.heap.size, 0, none⟩ 1 1 (Sq.enc (sqr i)) (by rfl) rfl KN.out (sq_one (sqr i)) (by decide) ?c1 ?c2 ?c3 _ rfl ?_))
        case c1 => unfold maxLen; omega
        case c2 => omega
        case c3 => (first | omega | (simp only [World.size_alloc]; omega))
        intro g7 cap7 w8 hown hgr hwh hlt7
        have hn7 : g7 ≠ g2 ∧ gs ≠ g7 ∧ gq ≠ g7 := by
          rcases hwh with h | h
          · simp [Value.ownBlock] at h; omega
          · (first | omega | (simp only [World.size_alloc] at hl2 hlx hlq; omega))
        have HEN7 : Hid (∀ e ∈ es, e.g ≠ g7 ∧ e.g ≠ g2) := Lib.hid (fun e he => by
          have h1 := HEN.out e he
          have h3 := HEL.out e he
          refine ⟨?_, h1.2⟩
          rcases hwh with h | h
          · simp [Value.ownBlock] at h; omega
          · (first | omega | (simp only [World.size_alloc] at h3; omega)))
        have hb8 := hb.grown hgr hb.size (fun q e => by have := (HO.out.lt q e).1; omega)
        have HO8 : Hid (w8.ownsRow (w3.heap.size + 1) 73 2 (.slice (some ⟨g7, 0, none⟩) (ne + 1) cap7) (ne + 1) (((es ++ [(Ent.mk i gq cq)]).map fun e : Ent => sqr e.i).flatMap Sq.enc)) := Lib.hid (by
          rw [HMS.out, snoc_flat Sq.enc]; exact hown)
        replace HX := Lib.hid (HX.out.kept hgr (.inr (by simp [Value.ownBlock]; omega)))
        replace HW := Lib.hid (HW.out.kept hgr (.inr (by simp [Value.ownBlock]; omega)))
        replace HQ := Lib.hid (HQ.out.kept hgr (.inr (by simp [Value.ownBlock]; omega)))
        replace HS := Lib.hid (HS.out.grown (g := g1) hgr (fun e he => (HEN.out e he).1))
        replace VA := Lib.hid (VA.out.grown hgr (own_ne HO.out (by omega)))
        replace VP := Lib.hid (VP.out.grown hgr (own_ne HO.out (by omega)))
        have hz8 : w3.heap.size + 1 ≤ w8.heap.size := VA.out.lt
        clear hown hgr hwh KN HO hb HMS VS s0 s1 hl2 hlx hlq HEL
        have hb := hb8
        have HO := HO8
        clear hb8 HO8
        have hd : Below w8.heap.size w8 (w8.alloc (.cells #[.slice (some ⟨gq, 0, none⟩) (sq i).length cq] 65)) := (Below.refl _ _).alloc (Nat.le_refl _) _
        have KN := Lib.hid (new_ent w8 sq (Ent.mk i gq cq) 65)
        replace HQ := Lib.hid (own_below HQ.out hd)
        replace HX := Lib.hid (own_below HX.out hd)
        replace HO := Lib.hid (own_below HO.out hd)
        replace HW := Lib.hid (own_below HW.out hd)
        replace HS := Lib.hid (HS.out.kept hd)
        replace VA := Lib.hid (VA.out.kept hd)
        replace VP := Lib.hid (VP.out.kept hd)
        replace hb := hb.trans (hd.mono hb.size)
        clear hd
        have hl7 := (HO.out.lt g7 rfl).2
        have hlx := (HX.out.lt gs rfl).2
        have hlq := (HQ.out.lt gq rfl).2
        have HEL := Lib.hid HS.out.lt
        go_wp2_with (at_builtin; go_must (refine wpList_append_lies _ rfl (.tmp 45) (.tmp 47) 179 rfl (w3.heap.size + 1) 65 j0 _ 1 24 Tryz.underlying179 hj0 hj1 hj2 hj3 rfl (by decide) _ ne (es.flatMap (Ent.enc sq)) (by rfl) HW.out ⟨w8.heap.size, 0, none⟩ 1 1 (Ent.enc sq (Ent.mk i gq cq)) (by rfl) rfl KN.out (ent_one sq (Ent.mk i gq cq)) (by decide) ?c4 ?c5 ?c6 _ rfl ?_))
        case c4 => unfold maxLen; omega
        case c5 => omega
        case c6 => (first | omega | (simp only [World.size_alloc]; omega))
        intro g9 cap9 w9 hown hgr hwh hlt9
        have hn9 : g7 ≠ g9 ∧ gs ≠ g9 ∧ gq ≠ g9 := by
          rcases hwh with h | h
          · simp [Value.ownBlock] at h; omega
          · (first | omega | (simp only [World.size_alloc] at hl7 hlx hlq; omega))
        have HEN9 : Hid (∀ e ∈ es ++ [(Ent.mk i gq cq)], e.g ≠ g7 ∧ e.g ≠ g9) := Lib.hid (fun e he => by
          rcases List.mem_append.1 he with he | he
          · have h1 := HEN7.out e he
            have h3 := HEL.out e he
            refine ⟨h1.1, ?_⟩
            rcases hwh with h | h
            · simp [Value.ownBlock] at h; omega
            · (first | omega | (simp only [World.size_alloc] at h3; omega))
          · rw [List.mem_singleton.1 he]
            exact ⟨hn7.2.2, hn9.2.2⟩)
        have HW9 : Hid (w9.ownsRow (w3.heap.size + 1) 65 1 (.slice (some ⟨g9, 0, none⟩) (ne + 1) cap9) (ne + 1) ((es ++ [(Ent.mk i gq cq)]).flatMap (Ent.enc sq))) := Lib.hid (by
          rw [snoc_flat (Ent.enc sq)]; exact hown)
        have hb9 := hb.grown hgr hb.size (fun q e => by have := (HW.out.lt q e).1; omega)
        have HO9 := Lib.hid (HO.out.kept hgr (.inr (by simp [Value.ownBlock]; omega)))
        have HX9 := Lib.hid (HX.out.kept hgr (.inr (by simp [Value.ownBlock]; omega)))
        have HQ9 := Lib.hid (HQ.out.kept hgr (.inr (by simp [Value.ownBlock]; omega)))
        have HS9 := Lib.hid ((HS.out.grown (g := g2) hgr (fun e he => (HEN7.out e he).2)).snoc (e := (Ent.mk i gq cq)) HQ9.out)
        have VA9 := Lib.hid (VA.out.grown hgr (own_ne HW.out (by omega)))
        have VP9 := Lib.hid (VP.out.grown hgr (own_ne HW.out (by omega)))
        have hgs9 := (HX9.out.lt gs rfl).2
        clear hown hgr hwh KN HO HW HX HQ hb VA VP HS HEN HEN7 HEL HQ9
        go_wp2
        go_roundw
        case rel => exact ⟨k + 1, es ++ [(Ent.mk i gq cq)], ne + 1, g7, cap7, g9, cap9, by omega, by go_num, rfl, rfl, HNE2, HES2, hn9.1, hn7.2.1, hn9.2.1, HEN9, hgs9, HO9, HW9, HS9, HX9, VP9, VA9, hb9⟩
        case measure => simp [intOf]; omega
      · have HES2 : Hid (es.map Ent.i = ct (fr.take (k + 1))) := Lib.hid (by
          rw [HTK.out, HCT2.out, if_neg h2, List.append_nil, HES.out])
        have h2i : ¬ (2 : Int) ≤ ((sq i).length : Int) := by omega
        have hgs9 := (HX.out.lt gs rfl).2
        clear VS HQ
        go_wp2
        go_roundw
        case rel => exact ⟨k + 1, es, ne, g1, c1, g2, c2, by omega, by go_num, rfl, rfl, HNE, HES2, h12, hs1, hs2, HEN, hgs9, HO, HW, HS, HX, VP, VA, hb⟩
        case measure => simp [intOf]; omega
    · obtain rfl : k = m := by omega
      have hE := HES.out
      rw [List.take_of_length_le (by omega)] at hE
      have HE2 := Lib.hid hE
      clear hE HES
      go_wp2
      go_ret2
      exact ⟨es, g1, c1, g2, c2, HE2.out, by rw [HNE.out]; rfl, by rw [HNE.out]; exact own_mono HO.out (by omega), by rw [HNE.out]; exact own_mono HW.out (by omega), HS.out.mono (by omega), hb⟩
set_option maxRecDepth 100000 in
set_option maxHeartbeats 8000000 in
theorem cross_across (b : Brd) (r c : Int) (s : ByteArray) (n : Nat) (w : World) (hp : PGood b ⟨r, c, false, s⟩ n) :
    Calls Tryz.prog 176 #[.agg #[.int .i64 b.size, .string b.premium, .string b.cells], .agg #[.int .i64 r, .int .i64 c, .bool false, .string s]] w (CrossPost (crossS b ⟨r, c, false, s⟩) (sqOf ⟨r, c, false, s⟩) (crossTo b ⟨r, c, false, s⟩ (b.fresh ⟨r, c, false, s⟩)) w) := by
  obtain ⟨i0, hi0, hi1, hi2, hi3⟩ := info_parts infoSq
  obtain ⟨j0, hj0, hj1, hj2, hj3⟩ := info_parts infoSqs
  have hs12 := hp.twelve
  obtain ⟨w2, hw2⟩ : ∃ w2, w2 = (w.alloc (.cells #[.int .i64 b.size, .string b.premium, .string b.cells] 25)).alloc (.cells #[.int .i64 r, .int .i64 c, .bool false, .string s] 30) := ⟨_, rfl⟩
  have hb : Below w.heap.size w w2 := by rw [hw2]; exact ((Below.refl _ _).alloc (Nat.le_refl _) _).alloc (by simp) _
  have VB : Hid (VarAt w2 w.heap.size 25 [.int .i64 b.size, .string b.premium, .string b.cells]) := by
    rw [hw2]
    exact Lib.hid ((VarAt.new w 25 [.int .i64 b.size, .string b.premium, .string b.cells]).kept ((Below.refl _ _).alloc (Nat.le_refl _) _))
  have VP : Hid (VarAt w2 (w.heap.size + 1) 30 [.int .i64 r, .int .i64 c, .bool false, .string s]) := by
    rw [hw2]
    have := VarAt.new (w.alloc (.cells #[.int .i64 b.size, .string b.premium, .string b.cells] 25)) 30 [.int .i64 r, .int .i64 c, .bool false, .string s]
    simp only [World.size_alloc] at this
    exact Lib.hid this
  have HMD : Hid (∀ W, Calls Tryz.prog 84 #[.agg #[.int .i64 b.size, .string b.premium, .string b.cells], .agg #[.int .i64 r, .int .i64 c, .bool false, .string s]] W fun e w' => e = .returned (.agg #[.int .i64 (b.made ⟨r, c, false, s⟩).size, .string (b.made ⟨r, c, false, s⟩).premium, .string (b.made ⟨r, c, false, s⟩).cells]) ∧ Below W.heap.size W w') := Lib.hid (fun W => made_any b ⟨r, c, false, s⟩ n W hp)
  have HNS : Hid (∀ W, Calls Tryz.prog 121 #[.agg #[.int .i64 b.size, .string b.premium, .string b.cells], .agg #[.int .i64 r, .int .i64 c, .bool false, .string s]] W (NewPost ⟨r, c, false, s⟩ (b.fresh ⟨r, c, false, s⟩) W)) := Lib.hid (fun W => newSquares_any b ⟨r, c, false, s⟩ n W hp)
  have HSEQ : Hid (∀ i, i < s.size → ∀ W, Calls Tryz.prog 241 #[.agg #[.int .i64 (b.made ⟨r, c, false, s⟩).size, .string (b.made ⟨r, c, false, s⟩).premium, .string (b.made ⟨r, c, false, s⟩).cells], .agg #[.int .i64 (sqOf ⟨r, c, false, s⟩ i).1, .int .i64 (sqOf ⟨r, c, false, s⟩ i).2], .iface 255 (.agg #[])] W (SqsPost W (crossS b ⟨r, c, false, s⟩ i))) := Lib.hid (fun i h W => sequence_any (b.made ⟨r, c, false, s⟩) n true _ _ W hp.made_good (hp.made_full h).2 (hp.made_full h).1)
  have HLT : Hid (∀ i ∈ b.fresh ⟨r, c, false, s⟩, i < s.size) := Lib.hid (fun i h => (freshL_lt h).1)
  have hfl : (b.fresh ⟨r, c, false, s⟩).length ≤ s.size := freshL_len _ _ _ _
  have HCT : Hid (∀ is i, crossTo b ⟨r, c, false, s⟩ (is ++ [i]) = crossTo b ⟨r, c, false, s⟩ is ++ if 2 ≤ (crossS b ⟨r, c, false, s⟩ i).length then [i] else []) := Lib.hid (fun is i => by
    unfold crossTo
    rw [filter_snoc]
    simp only [decide_eq_true_eq])
  have HC0 : Hid (crossTo b ⟨r, c, false, s⟩ [] = []) := Lib.hid rfl
  have HCL : Hid (∀ is, (crossTo b ⟨r, c, false, s⟩ is).length ≤ is.length) := Lib.hid (fun is => List.length_filter_le _ _)
  have HW2 := Lib.hid hw2
  clear hw2 hp
  generalize b.made ⟨r, c, false, s⟩ = af at *
  generalize b.fresh ⟨r, c, false, s⟩ = fr at *
  generalize crossTo b ⟨r, c, false, s⟩ = ct at *
  generalize crossS b ⟨r, c, false, s⟩ = sq at *
  generalize hsqr : sqOf ⟨r, c, false, s⟩ = sqr at *
  have HSQR := Lib.hid hsqr
  clear hsqr
  go_enter Tryz.func176, Tryz.ntmps176
  go_upto_region 1 with fail
  rw [← HW2.out]
  clear HW2
  have b0 := VB.out.cell (i := 0) rfl
  have b1 := VB.out.cell (i := 1) rfl
  have b2 := VB.out.cell (i := 2) rfl
  have p0 := VP.out.cell (i := 0) rfl
  have p1 := VP.out.cell (i := 1) rfl
  have p2 := VP.out.cell (i := 2) rfl
  have p3 := VP.out.cell (i := 3) rfl
  go_wp2_with fail
  refine (HMD.out _).mono ?_
  rintro e w3 ⟨rfl, hd⟩
  have hz3 := VP.out.lt
  have hz3' := hd.size
  replace hb := hb.trans (hd.mono hb.size)
  replace b0 := cell_kept b0 hd
  replace b1 := cell_kept b1 hd
  replace b2 := cell_kept b2 hd
  replace p0 := cell_kept p0 hd
  replace p1 := cell_kept p1 hd
  replace p2 := cell_kept p2 hd
  replace p3 := cell_kept p3 hd
  replace VB := Lib.hid (VB.out.kept hd)
  replace VP := Lib.hid (VP.out.kept hd)
  clear hd
  have VA := Lib.hid (VarAt.new w3 25 [.int .i64 af.size, .string af.premium, .string af.cells])
  have hd : Below w3.heap.size w3 (w3.alloc (.cells #[.int .i64 af.size, .string af.premium, .string af.cells] 25)) := (Below.refl _ _).alloc (Nat.le_refl _) _
  replace hb := hb.trans (hd.mono hb.size)
  replace b0 := cell_kept b0 hd
  replace b1 := cell_kept b1 hd
  replace b2 := cell_kept b2 hd
  replace p0 := cell_kept p0 hd
  replace p1 := cell_kept p1 hd
  replace p2 := cell_kept p2 hd
  replace p3 := cell_kept p3 hd
  replace VB := Lib.hid (VB.out.kept hd)
  replace VP := Lib.hid (VP.out.kept hd)
  clear hd
  have hza := VA.out.lt
  go_wp2_with fail
  refine (HNS.out _).mono ?_
  rintro e w5 ⟨gs, cs, gp, cpl, rfl, hne, hx0, _, hd⟩
  rw [HSQR.out] at hx0
  have HX := Lib.hid (own_mono hx0 (show w3.heap.size + 1 ≤ _ by omega))
  clear hx0 hne HSQR b0 b1 b2 p0 p1 p2 p3 VB
  replace hb := hb.trans (hd.mono hb.size)
  replace VP := Lib.hid (VP.out.kept hd)
  replace VA := Lib.hid (VA.out.kept hd)
  clear hd
  have hgs := (HX.out.lt gs rfl).2
  have hwz : w3.heap.size + 1 ≤ w5.heap.size := by have := VA.out.lt; omega
  have HO : Hid (((w5.alloc (.cells #[] 73)).alloc (.cells #[] 65)).ownsRow (w3.heap.size + 1) 73 2 (.slice (some ⟨w5.heap.size, 0, none⟩) 0 0) 0 []) := Lib.hid (own_below (World.ownsRow_made (base := w3.heap.size + 1) (e := 73) (size := 2) w5 #[] 0 (by omega) (by unfold maxLen; omega) rfl) ((Below.refl _ _).alloc (Nat.le_refl _) _))
  have HW : Hid (((w5.alloc (.cells #[] 73)).alloc (.cells #[] 65)).ownsRow (w3.heap.size + 1) 65 1 (.slice (some ⟨w5.heap.size + 1, 0, none⟩) 0 0) 0 []) := by
    have := World.ownsRow_made (base := w3.heap.size + 1) (e := 65) (size := 1) (w5.alloc (.cells #[] 73)) #[] 0 (by simp; omega) (by unfold maxLen; omega) rfl
    simp only [World.size_alloc] at this
    exact Lib.hid this
  have hd : Below w5.heap.size w5 ((w5.alloc (.cells #[] 73)).alloc (.cells #[] 65)) := ((Below.refl _ _).alloc (Nat.le_refl _) _).alloc (by simp) _
  replace hb := hb.trans (hd.mono hb.size)
  replace HX := Lib.hid (own_below HX.out hd)
  replace VP := Lib.hid (VP.out.kept hd)
  replace VA := Lib.hid (VA.out.kept hd)
  clear hd
  have HS : Hid (EntsAt ((w5.alloc (.cells #[] 73)).alloc (.cells #[] 65)) (w3.heap.size + 1) sq []) := Lib.hid (fun e he => by cases he)
  have hgs2 := (HX.out.lt gs rfl).2
  generalize hfrl : fr.length = m at *
  go_wp2_with fail
  go_loopw [9, 10, 27] (fun ov xv iv wr => ∃ (k : Nat) (es : List Ent) (ne g1 c1 g2 c2 : Nat), k ≤ m ∧ iv = .int .i64 k ∧ ov = .slice (some ⟨g1, 0, none⟩) ne c1 ∧ xv = .slice (some ⟨g2, 0, none⟩) ne c2 ∧ Hid (es.length = ne) ∧ Hid (es.map Ent.i = ct (fr.take k)) ∧ g1 ≠ g2 ∧ gs ≠ g1 ∧ gs ≠ g2 ∧ Hid (∀ e ∈ es, e.g ≠ g1 ∧ e.g ≠ g2) ∧ gs < wr.heap.size ∧ Hid (wr.ownsRow (w3.heap.size + 1) 73 2 (.slice (some ⟨g1, 0, none⟩) ne c1) ne ((es.map fun e => sqr e.i).flatMap Sq.enc)) ∧ Hid (wr.ownsRow (w3.heap.size + 1) 65 1 (.slice (some ⟨g2, 0, none⟩) ne c2) ne (es.flatMap (Ent.enc sq))) ∧ Hid (EntsAt wr (w3.heap.size + 1) sq es) ∧ Hid (wr.ownsRow (w3.heap.size + 1) 73 2 (.slice (some ⟨gs, 0, none⟩) m cs) m ((fr.map sqr).flatMap Sq.enc)) ∧ Hid (VarAt wr (w.heap.size + 1) 30 [.int .i64 r, .int .i64 c, .bool false, .string s]) ∧ Hid (VarAt wr w3.heap.size 25 [.int .i64 af.size, .string af.premium, .string af.cells]) ∧ Below w.heap.size w wr) (fun _ _ iv _ => m - (intOf iv).toNat)
  case atStart => exact ⟨0, [], 0, _, 0, _, 0, Nat.zero_le _, rfl, rfl, rfl, Lib.hid rfl, Lib.hid (by rw [List.take_zero, HC0.out]; rfl), by omega, by omega, by omega, Lib.hid (fun e he => by cases he), hgs2, HO, HW, HS, HX, VP, VA, hb⟩
  case round =>
    clear HO HW HS HX VP VA hb hgs hgs2 hza hwz
    obtain ⟨k, es, ne, g1, c1, g2, c2, hk, rfl, rfl, rfl, HNE, HES, h12, hs1, hs2, HEN, hgs, HO, HW, HS, HX, VP, VA, hb⟩ := hrel
    by_cases hkm : k < m
    · obtain ⟨i, hi⟩ : ∃ i, i = fr[k]'(by omega) := ⟨_, rfl⟩
      have hkf : k < fr.length := by omega
      have HTK := Lib.hid (take_nat hkf hi.symm)
      have his : i < s.size := by rw [hi]; exact HLT.out _ (List.getElem_mem _)
      have hrow := row_sq HX.out (k := k) (by rw [List.length_map]; exact hkf)
      rw [List.getElem_map, ← hi] at hrow
      obtain ⟨x0, x1⟩ := hrow
      have HCT2 := Lib.hid (HCT.out (fr.take k) i)
      have hne12 : ne ≤ 12 := by
        have h1 := HNE.out
        have h2 := congrArg List.length HES.out
        have h3 := HCL.out (fr.take k)
        rw [List.length_map] at h2
        have h4 : (fr.take k).length ≤ k := by rw [List.length_take]; omega
        omega
      clear hi hkf
      have HSQI := Lib.hid (HSEQ.out i his)
      go_upto_region 7 with fail
      clear x0 x1
      have VS := Lib.hid (VarAt.new wr 73 [.int .i64 (sqr i).1, .int .i64 (sqr i).2])
      have hd : Below wr.heap.size wr (wr.alloc (.cells #[.int .i64 (sqr i).1, .int .i64 (sqr i).2] 73)) := (Below.refl _ _).alloc (Nat.le_refl _) _
      replace HX := Lib.hid (own_below HX.out hd)
      replace HO := Lib.hid (own_below HO.out hd)
      replace HW := Lib.hid (own_below HW.out hd)
      replace HS := Lib.hid (HS.out.kept hd)
      replace VA := Lib.hid (VA.out.kept hd)
      replace VP := Lib.hid (VP.out.kept hd)
      replace hb := hb.trans (hd.mono hb.size)
      clear hd
      generalize wr.alloc (.cells #[.int .i64 (sqr i).1, .int .i64 (sqr i).2] 73) = w6 at *
      have hd : Below w6.heap.size w6 w6.drew := (Below.refl _ _).drew
      replace VS := Lib.hid (VS.out.kept hd)
      replace HX := Lib.hid (own_below HX.out hd)
      replace HO := Lib.hid (own_below HO.out hd)
      replace HW := Lib.hid (own_below HW.out hd)
      replace HS := Lib.hid (HS.out.kept hd)
      replace VA := Lib.hid (VA.out.kept hd)
      replace VP := Lib.hid (VP.out.kept hd)
      replace hb := hb.trans (hd.mono hb.size)
      clear hd
      go_region_held3 (fun w' => w'.cell? ⟨w3.heap.size, 0, none⟩ = some (.int .i64 af.size) ∧ w'.cell? ⟨w3.heap.size, 1, none⟩ = some (.string af.premium) ∧ w'.cell? ⟨w3.heap.size, 2, none⟩ = some (.string af.cells) ∧ w'.cell? ⟨wr.heap.size, 0, none⟩ = some (.int .i64 (sqr i).1) ∧ w'.cell? ⟨wr.heap.size, 1, none⟩ = some (.int .i64 (sqr i).2) ∧ w'.cell? ⟨w.heap.size + 1, 2, none⟩ = some (.bool false))
        (exact ⟨VA.out.cell (i := 0) rfl, VA.out.cell (i := 1) rfl, VA.out.cell (i := 2) rfl, VS.out.cell (i := 0) rfl, VS.out.cell (i := 1) rfl, VP.out.cell (i := 2) rfl⟩)
        ((first | (go_at_call 242; refine (directionOf_any false _).mono ?_; rintro e wq ⟨rfl, rfl⟩; rw [show dirV false = .iface 256 (.agg #[]) from rfl]) | (go_at_call 347; refine (rcross_any _).mono ?_; rintro e wq ⟨rfl, hd⟩; rw [show dirV true = .iface 255 (.agg #[]) from rfl]; replace HX := Lib.hid (own_below HX.out hd); replace HO := Lib.hid (own_below HO.out hd); replace HW := Lib.hid (own_below HW.out hd); replace HS := Lib.hid (HS.out.kept hd); replace VA := Lib.hid (VA.out.kept hd); replace VP := Lib.hid (VP.out.kept hd); replace VS := Lib.hid (VS.out.kept hd); replace hb := hb.trans (hd.mono hb.size); clear hd) | (go_at_call 241; refine (HSQI.out _).mono ?_; rintro e wq ⟨gq, cq, rfl, hq0, hd⟩; have HQ := Lib.hid (own_mono hq0 (show w3.heap.size + 1 ≤ _ from VA.out.lt)); have hq1 := (hq0.lt gq rfl).1; have hg1 := (HO.out.lt g1 rfl).2; have hg2 := (HW.out.lt g2 rfl).2; have hqq : gq ≠ g1 ∧ gq ≠ g2 := (by omega); clear hq0 hq1 hg1 hg2; replace HX := Lib.hid (own_below HX.out hd); replace HO := Lib.hid (own_below HO.out hd); replace HW := Lib.hid (own_below HW.out hd); replace HS := Lib.hid (HS.out.kept hd); replace VA := Lib.hid (VA.out.kept hd); replace VP := Lib.hid (VP.out.kept hd); replace VS := Lib.hid (VS.out.kept hd); replace hb := hb.trans (hd.mono hb.size); clear hd)))
      generalize wq = w7 at *
      by_cases h2 : 2 ≤ (sq i).length
      · have HES2 : Hid ((es ++ [(Ent.mk i gq cq)]).map Ent.i = ct (fr.take (k + 1))) := Lib.hid (by
          rw [HTK.out, HCT2.out, if_pos h2, List.map_append, HES.out]; rfl)
        have HMS : Hid ((es ++ [(Ent.mk i gq cq)]).map (fun e : Ent => sqr e.i) = es.map (fun e => sqr e.i) ++ [sqr i]) := Lib.hid (by rw [List.map_append]; rfl)
        have HNE2 : Hid ((es ++ [(Ent.mk i gq cq)] : List Ent).length = ne + 1) := Lib.hid (by rw [List.length_append, HNE.out]; rfl)
        have h2i : (2 : Int) ≤ ((sq i).length : Int) := by omega
        have s0 := VS.out.cell (i := 0) rfl
        have s1 := VS.out.cell (i := 1) rfl
        have hd : Below w7.heap.size w7 (w7.alloc (.cells #[.int .i64 (sqr i).1, .int .i64 (sqr i).2] 73)) := (Below.refl _ _).alloc (Nat.le_refl _) _
        have KN := Lib.hid (new_sq w7 (sqr i) 73)
        have hz7 := VA.out.lt
        replace HQ := Lib.hid (own_below HQ.out hd)
        replace VS := Lib.hid (VS.out.kept hd)
        have hgs7 := (HX.out.lt gs rfl).2
        replace HX := Lib.hid (own_below HX.out hd)
        replace HO := Lib.hid (own_below HO.out hd)
        replace HW := Lib.hid (own_below HW.out hd)
        replace HS := Lib.hid (HS.out.kept hd)
        replace VA := Lib.hid (VA.out.kept hd)
        replace VP := Lib.hid (VP.out.kept hd)
        replace hb := hb.trans (hd.mono hb.size)
        clear hd
        have hl2 := (HW.out.lt g2 rfl).2
        have hlx := (HX.out.lt gs rfl).2
        have hlq := (HQ.out.lt gq rfl).2
        have HEL := Lib.hid HS.out.lt
        go_wp2_with (at_builtin; go_must (refine wpList_append_lies _ rfl (.tmp 41) (.tmp 43) 65 rfl (w3.heap.size + 1) 73 i0 _ 2 16 Tryz.underlying65 hi0 hi1 hi2 hi3 rfl (by decide) _ ne ((es.map fun e => sqr e.i).flatMap Sq.enc) (by rfl) HO.out ⟨w7.heap.size, 0, none⟩ 1 1 (Sq.enc (sqr i)) (by rfl) rfl KN.out (sq_one (sqr i)) (by decide) ?c1 ?c2 ?c3 _ rfl ?_))
        case c1 => unfold maxLen; omega
        case c2 => omega
        case c3 => (first | omega | (simp only [World.size_alloc]; omega))
        intro g7 cap7 w8 hown hgr hwh hlt7
        have hn7 : g7 ≠ g2 ∧ gs ≠ g7 ∧ gq ≠ g7 := by
          rcases hwh with h | h
          · simp [Value.ownBlock] at h; omega
          · (first | omega | (simp only [World.size_alloc] at hl2 hlx hlq; omega))
        have HEN7 : Hid (∀ e ∈ es, e.g ≠ g7 ∧ e.g ≠ g2) := Lib.hid (fun e he => by
          have h1 := HEN.out e he
          have h3 := HEL.out e he
          refine ⟨?_, h1.2⟩
          rcases hwh with h | h
          · simp [Value.ownBlock] at h; omega
          · (first | omega | (simp only [World.size_alloc] at h3; omega)))
        have hb8 := hb.grown hgr hb.size (fun q e => by have := (HO.out.lt q e).1; omega)
        have HO8 : Hid (w8.ownsRow (w3.heap.size + 1) 73 2 (.slice (some ⟨g7, 0, none⟩) (ne + 1) cap7) (ne + 1) (((es ++ [(Ent.mk i gq cq)]).map fun e : Ent => sqr e.i).flatMap Sq.enc)) := Lib.hid (by
          rw [HMS.out, snoc_flat Sq.enc]; exact hown)
        replace HX := Lib.hid (HX.out.kept hgr (.inr (by simp [Value.ownBlock]; omega)))
        replace HW := Lib.hid (HW.out.kept hgr (.inr (by simp [Value.ownBlock]; omega)))
        replace HQ := Lib.hid (HQ.out.kept hgr (.inr (by simp [Value.ownBlock]; omega)))
        replace HS := Lib.hid (HS.out.grown (g := g1) hgr (fun e he => (HEN.out e he).1))
        replace VA := Lib.hid (VA.out.grown hgr (own_ne HO.out (by omega)))
        replace VP := Lib.hid (VP.out.grown hgr (own_ne HO.out (by omega)))
        have hz8 : w3.heap.size + 1 ≤ w8.heap.size := VA.out.lt
        clear hown hgr hwh KN HO hb HMS VS s0 s1 hl2 hlx hlq HEL
        have hb := hb8
        have HO := HO8
        clear hb8 HO8
        have hd : Below w8.heap.size w8 (w8.alloc (.cells #[.slice (some ⟨gq, 0, none⟩) (sq i).length cq] 65)) := (Below.refl _ _).alloc (Nat.le_refl _) _
        have KN := Lib.hid (new_ent w8 sq (Ent.mk i gq cq) 65)
        replace HQ := Lib.hid (own_below HQ.out hd)
        replace HX := Lib.hid (own_below HX.out hd)
        replace HO := Lib.hid (own_below HO.out hd)
        replace HW := Lib.hid (own_below HW.out hd)
        replace HS := Lib.hid (HS.out.kept hd)
        replace VA := Lib.hid (VA.out.kept hd)
        replace VP := Lib.hid (VP.out.kept hd)
        replace hb := hb.trans (hd.mono hb.size)
        clear hd
        have hl7 := (HO.out.lt g7 rfl).2
        have hlx := (HX.out.lt gs rfl).2
        have hlq := (HQ.out.lt gq rfl).2
        have HEL := Lib.hid HS.out.lt
        go_wp2_with (at_builtin; go_must (refine wpList_append_lies _ rfl (.tmp 45) (.tmp 47) 179 rfl (w3.heap.size + 1) 65 j0 _ 1 24 Tryz.underlying179 hj0 hj1 hj2 hj3 rfl (by decide) _ ne (es.flatMap (Ent.enc sq)) (by rfl) HW.out ⟨w8.heap.size, 0, none⟩ 1 1 (Ent.enc sq (Ent.mk i gq cq)) (by rfl) rfl KN.out (ent_one sq (Ent.mk i gq cq)) (by decide) ?c4 ?c5 ?c6 _ rfl ?_))
        case c4 => unfold maxLen; omega
        case c5 => omega
        case c6 => (first | omega | (simp only [World.size_alloc]; omega))
        intro g9 cap9 w9 hown hgr hwh hlt9
        have hn9 : g7 ≠ g9 ∧ gs ≠ g9 ∧ gq ≠ g9 := by
          rcases hwh with h | h
          · simp [Value.ownBlock] at h; omega
          · (first | omega | (simp only [World.size_alloc] at hl7 hlx hlq; omega))
        have HEN9 : Hid (∀ e ∈ es ++ [(Ent.mk i gq cq)], e.g ≠ g7 ∧ e.g ≠ g9) := Lib.hid (fun e he => by
          rcases List.mem_append.1 he with he | he
          · have h1 := HEN7.out e he
            have h3 := HEL.out e he
            refine ⟨h1.1, ?_⟩
            rcases hwh with h | h
            · simp [Value.ownBlock] at h; omega
            · (first | omega | (simp only [World.size_alloc] at h3; omega))
          · rw [List.mem_singleton.1 he]
            exact ⟨hn7.2.2, hn9.2.2⟩)
        have HW9 : Hid (w9.ownsRow (w3.heap.size + 1) 65 1 (.slice (some ⟨g9, 0, none⟩) (ne + 1) cap9) (ne + 1) ((es ++ [(Ent.mk i gq cq)]).flatMap (Ent.enc sq))) := Lib.hid (by
          rw [snoc_flat (Ent.enc sq)]; exact hown)
        have hb9 := hb.grown hgr hb.size (fun q e => by have := (HW.out.lt q e).1; omega)
        have HO9 := Lib.hid (HO.out.kept hgr (.inr (by simp [Value.ownBlock]; omega)))
        have HX9 := Lib.hid (HX.out.kept hgr (.inr (by simp [Value.ownBlock]; omega)))
        have HQ9 := Lib.hid (HQ.out.kept hgr (.inr (by simp [Value.ownBlock]; omega)))
        have HS9 := Lib.hid ((HS.out.grown (g := g2) hgr (fun e he => (HEN7.out e he).2)).snoc (e := (Ent.mk i gq cq)) HQ9.out)
        have VA9 := Lib.hid (VA.out.grown hgr (own_ne HW.out (by omega)))
        have VP9 := Lib.hid (VP.out.grown hgr (own_ne HW.out (by omega)))
        have hgs9 := (HX9.out.lt gs rfl).2
        clear hown hgr hwh KN HO HW HX HQ hb VA VP HS HEN HEN7 HEL HQ9
        go_wp2
        go_roundw
        case rel => exact ⟨k + 1, es ++ [(Ent.mk i gq cq)], ne + 1, g7, cap7, g9, cap9, by omega, by go_num, rfl, rfl, HNE2, HES2, hn9.1, hn7.2.1, hn9.2.1, HEN9, hgs9, HO9, HW9, HS9, HX9, VP9, VA9, hb9⟩
        case measure => simp [intOf]; omega
      · have HES2 : Hid (es.map Ent.i = ct (fr.take (k + 1))) := Lib.hid (by
          rw [HTK.out, HCT2.out, if_neg h2, List.append_nil, HES.out])
        have h2i : ¬ (2 : Int) ≤ ((sq i).length : Int) := by omega
        have hgs9 := (HX.out.lt gs rfl).2
        clear VS HQ
        go_wp2
        go_roundw
        case rel => exact ⟨k + 1, es, ne, g1, c1, g2, c2, by omega, by go_num, rfl, rfl, HNE, HES2, h12, hs1, hs2, HEN, hgs9, HO, HW, HS, HX, VP, VA, hb⟩
        case measure => simp [intOf]; omega
    · obtain rfl : k = m := by omega
      have hE := HES.out
      rw [List.take_of_length_le (by omega)] at hE
      have HE2 := Lib.hid hE
      clear hE HES
      go_wp2
      go_ret2
      exact ⟨es, g1, c1, g2, c2, HE2.out, by rw [HNE.out]; rfl, by rw [HNE.out]; exact own_mono HO.out (by omega), by rw [HNE.out]; exact own_mono HW.out (by omega), HS.out.mono (by omega), hb⟩
theorem crossings_any (b : Brd) (p : Ply) (n : Nat) (w : World) (hp : PGood b p n) :
    Calls Tryz.prog 176 #[.agg #[.int .i64 b.size, .string b.premium, .string b.cells], .agg #[.int .i64 p.row, .int .i64 p.col, .bool p.down, .string p.word]] w (CrossPost (crossS b p) (sqOf p) (crossTo b p (b.fresh p)) w) := by
  obtain ⟨r, c, d, s⟩ := p
  cases d
  · exact cross_across b r c s n w hp
  · exact cross_down b r c s n w hp
end Go.Proofs.YtjdcdhhbgijaoaaGreatDoor

namespace Go.Proofs.YtjdcdhhbgijaoaaGreatDoor
open Go.ChangeShapes Go.WideShapes Go.ChangeAt Go.RowKit Go.Sort

theorem upL_congr {F G : Fl} {c c' r r' : Int} : ∀ (k : Nat), (∀ j : Nat, j < k → F (r - j) c = G (r' - j) c') → upL F c k r = upL G c' k r'
  | 0, _ => rfl
  | k + 1, h => by
    have h0 := h 0 (by omega)
    simp only [Int.natCast_zero, Int.sub_zero] at h0
    have ih := upL_congr (F := F) (G := G) (c := c) (c' := c') (r := r - 1) (r' := r' - 1) k (fun j hj => by
      have := h (j + 1) (by omega)
      rwa [show r - ((j + 1 : Nat) : Int) = r - 1 - (j : Int) from by omega, show r' - ((j + 1 : Nat) : Int) = r' - 1 - (j : Int) from by omega] at this)
    rw [upL, upL, h0, ih]
theorem dnL_congr {F G : Fl} {c c' r r' : Int} : ∀ (k : Nat), (∀ j : Nat, j < k → F (r + j) c = G (r' + j) c') → dnL F c k r = dnL G c' k r'
  | 0, _ => rfl
  | k + 1, h => by
    have h0 := h 0 (by omega)
    simp only [Int.natCast_zero, Int.add_zero] at h0
    have ih := dnL_congr (F := F) (G := G) (c := c) (c' := c') (r := r + 1) (r' := r' + 1) k (fun j hj => by
      have := h (j + 1) (by omega)
      rwa [show r + ((j + 1 : Nat) : Int) = r + 1 + (j : Int) from by omega, show r' + ((j + 1 : Nat) : Int) = r' + 1 + (j : Int) from by omega] at this)
    rw [dnL, dnL, h0, ih]
/-- a line across a play's square, seen in the play's view -/
theorem line_view {b : Brd} {n : Nat} (h : b.Good n) (p : Ply) (i : Nat) (m x : Int) : lineF b (!p.down) (p.sr i) (p.sc i) m x = b.view p (p.r + m) (p.c + i) := by
  rw [h.view]
  unfold lineF dirSq Ply.sr Ply.sc Ply.r Ply.c
  cases p.down <;> rfl
theorem PGood.line_off {b : Brd} {p : Ply} {n : Nat} (h : PGood b p n) (i : Nat) {m : Int} (hm : m ≠ 0) (x : Int) : lineF (b.made p) (!p.down) (p.sr i) (p.sc i) m x = b.view p (p.r + m) (p.c + i) := by
  rw [line_view h.made_good, h.made_out (.inl (by omega))]
theorem PGood.seqU_eq {b : Brd} {p : Ply} {n : Nat} (h : PGood b p n) (i : Nat) : seqU (b.made p) (!p.down) (p.sr i) (p.sc i) = (upL (b.view p) (p.c + i) 16 (p.r - 1)).length := by
  unfold seqU
  rw [upL_congr (G := b.view p) (c' := p.c + i) (r' := p.r - 1) 16 (fun j _ => by
    rw [h.line_off i (by omega), show p.r + (-1 - (j : Int)) = p.r - 1 - j from by omega])]
theorem PGood.seqD_eq {b : Brd} {p : Ply} {n : Nat} (h : PGood b p n) (i : Nat) : seqD (b.made p) (!p.down) (p.sr i) (p.sc i) = (dnL (b.view p) (p.c + i) 16 (p.r + 1)).length := by
  unfold seqD
  rw [dnL_congr (G := b.view p) (c' := p.c + i) (r' := p.r + 1) 16 (fun j _ => by
    rw [h.line_off i (by omega), show p.r + (1 + (j : Int)) = p.r + 1 + j from by omega])]
theorem PGood.cross_len {b : Brd} {p : Ply} {n : Nat} (h : PGood b p n) (i : Nat) (x : UInt8) : (crossS b p i).length = (crossW (b.view p) p.r (p.c + i) x).length := by
  unfold crossS
  rw [seqL_len, h.seqU_eq, h.seqD_eq, crossW_length]
/-- the letters on the squares of a word across -/
def lettersOf (b : Brd) (l : List (Int × Int)) : List UInt8 := l.map fun s => b.cell s.1 s.2
theorem PGood.cross_letters {b : Brd} {p : Ply} {n : Nat} (h : PGood b p n) {i : Nat} (hi : i < p.word.size) : lettersOf (b.made p) (crossS b p i) = crossW (b.view p) p.r (p.c + i) (p.word.data.toList.getD i 0) := by
  apply List.ext_getElem
  · unfold lettersOf
    rw [List.length_map, h.cross_len i (p.word.data.toList.getD i 0)]
  · intro j h1 h2
    have hu := h.seqU_eq i
    have e : (lettersOf (b.made p) (crossS b p i))[j] = lineF (b.made p) (!p.down) (p.sr i) (p.sc i) ((j : Int) - seqU (b.made p) (!p.down) (p.sr i) (p.sc i)) 0 := by
      unfold lettersOf crossS seqL
      simp only [List.map_map, List.getElem_map, List.getElem_range, Function.comp]
      rfl
    rw [e, hu]
    by_cases c1 : j < (upL (b.view p) (p.c + i) 16 (p.r - 1)).length
    · rw [(crossW_lo c1 h2).1, h.line_off i (by omega)]
      congr 1
      omega
    · by_cases c2 : j = (upL (b.view p) (p.c + i) 16 (p.r - 1)).length
      · subst c2
        rw [crossW_mid h2, Int.sub_self, line_view h.made_good, Int.add_zero]
        exact h.made_in hi
      · rw [(crossW_hi (by omega) h2).1, h.line_off i (by omega)]
        congr 1
        omega
end Go.Proofs.YtjdcdhhbgijaoaaGreatDoor
