/- Contracts: the source of choices from which the reference draws its examples. What is drawn lies within its bounds; nothing is said of which one it is. -/
import Derived.Test.YtjdcdhhbgijaoaaGreatDoorVar
import Derived.Handy
import Derived.Laws.Closers25b
import Derived.Laws.Bits64b
namespace Go.Proofs.YtjdcdhhbgijaoaaGreatDoor
open Go.ChangeShapes Go.WideShapes Go.ChangeAt Go.RowKit Go.Sort

def Byt.enc (x : Int) : List Value := [.int .u8 x]
theorem Byt.enc_len (x : Int) : (Byt.enc x).length = 1 := rfl
/-- the code that came in: it can be read, below block N -/
def CodeAt (w : World) (N : Nat) (ca : Option Addr) (bs : List Int) : Prop :=
  SliceAt w 1 Byt.enc ca bs ∧ (∀ x ∈ bs, 0 ≤ x ∧ x ≤ 255) ∧ bs.length ≤ 4096 ∧ (0 < bs.length → ∀ cb co, ca = some ⟨cb, co, none⟩ → cb < N)
/-- a source of choices at block b: its code lies below N and is not the source itself; its place is not past k -/
def SrcAt (w : World) (N b k : Nat) : Prop :=
  ∃ (ca : Option Addr) (cap : Nat) (bs : List Int) (i : Nat) (sd : Int), i ≤ k ∧ b < N ∧ CodeAt w N ca bs ∧ (0 < bs.length → ∀ cb co, ca = some ⟨cb, co, none⟩ → cb ≠ b) ∧
    w.ownsRow 0 173 3 (.slice (some ⟨b, 0, none⟩) 1 1) 1 [.slice ca bs.length cap, .int .i64 i, .int .u64 sd]
theorem CodeAt.grown {w w' : World} {N : Nat} {ca : Option Addr} {bs : List Int} (h : CodeAt w N ca bs) {row : Option Nat} (hg : w.grownBy w' row) (hne : 0 < bs.length → ∀ cb co, ca = some ⟨cb, co, none⟩ → some cb ≠ row) : CodeAt w' N ca bs := by
  obtain ⟨h1, h2, h3, h4⟩ := h
  refine ⟨?_, h2, h3, h4⟩
  rcases h1 with rfl | ⟨cb, co, rfl, hc⟩
  · exact .inl rfl
  · by_cases h0 : 0 < bs.length
    · exact .inr ⟨cb, co, rfl, fun i hi j v hv => hg.cell (hc i hi j v hv) (hne h0 cb co rfl)⟩
    · exact .inl (List.length_eq_zero_iff.1 (by omega))
theorem SrcAt.mono {w : World} {N b k N' k' : Nat} (h : SrcAt w N b k) (hN : N ≤ N') (hk : k ≤ k') : SrcAt w N' b k' := by
  obtain ⟨ca, cap, bs, i, sd, h1, h2, ⟨c1, c2, c3, c4⟩, h4, h5⟩ := h
  exact ⟨ca, cap, bs, i, sd, by omega, by omega, ⟨c1, c2, c3, fun h0 cb co e => by have := c4 h0 cb co e; omega⟩, h4, h5⟩
/-- A source stays where a row at or above N is written. -/
theorem SrcAt.grown {w w' : World} {N b k : Nat} (h : SrcAt w N b k) {row : Option Nat} (hg : w.grownBy w' row) (hr : ∀ g, row = some g → N ≤ g) : SrcAt w' N b k := by
  obtain ⟨ca, cap, bs, i, sd, h1, h2, h3, h4, h5⟩ := h
  have hne : ∀ q, q < N → some q ≠ row := fun q hq e => by have := hr q e.symm; omega
  refine ⟨ca, cap, bs, i, sd, h1, h2, h3.grown hg (fun h0 cb co e => hne cb (h3.2.2.2 h0 cb co e)), h4, h5.kept hg (.inr ?_)⟩
  simpa [Value.ownBlock] using hne b h2
theorem SrcAt.kept {w w' : World} {N b k : Nat} (h : SrcAt w N b k) (hb : Below w.heap.size w w') : SrcAt w' N b k := h.grown (row := none) (grown_of_below hb) (fun g e => by cases e)
theorem SrcAt.lt {w : World} {N b k : Nat} (h : SrcAt w N b k) : b < N := by obtain ⟨_, _, _, _, _, _, h2, _⟩ := h; exact h2
theorem SrcAt.size {w : World} {N b k : Nat} (h : SrcAt w N b k) : b < w.heap.size := by
  obtain ⟨_, _, _, _, _, _, _, _, _, h5⟩ := h
  exact (h5.lt b rfl).2
/-- what is drawn: a number of which P holds; the source goes on -/
def Drawn (P : Int → Prop) (w : World) (N b k : Nat) (e : Ending) (w' : World) : Prop := ∃ x : Int, P x ∧ e = .returned (.int .i64 x) ∧ SrcAt w' N b k ∧ w.grownBy w' (some b)
def BR (x : Int) : Prop := 0 ≤ x ∧ x ≤ 255

theorem low_byte {z : Nat} (hz : (z : Int) ≤ IntKind.u64.max) : BR (wrap64 (bits BinOp.and IntKind.u64 ((z : Int) / 1099511627776) 255)) := by
  have e : IntKind.u64.max = 18446744073709551615 := by decide
  rw [e] at hz
  have h := bits_and_u64_nat (z / 1099511627776) 255 (by omega) (by omega)
  have h2 : z / 1099511627776 &&& 255 ≤ 255 := Nat.and_le_right
  rw [show ((z : Int) / 1099511627776) = ((z / 1099511627776 : Nat) : Int) from by omega, show (255 : Int) = ((255 : Nat) : Int) from rfl, h]
  generalize z / 1099511627776 &&& 255 = y at *
  rw [IntWalk.wrap64_in _ (by omega)]
  exact ⟨by omega, by omega⟩
def Str.enc (s : ByteArray) : List Value := [.string s]
theorem l00From_any (ca : Option Addr) (cap : Nat) (bs : List Int) (w : World) (hc : CodeAt w w.heap.size ca bs) :
    Calls Tryz.prog 69 #[.slice ca bs.length cap] w fun e w' => e = .returned (.pointer (some ⟨w.heap.size, 0, none⟩)) ∧ Below w.heap.size w w' ∧ SrcAt w' (w.heap.size + 1) w.heap.size 0 ∧ w'.heap.size = w.heap.size + 1 := by
  have HC := Lib.hid hc; clear hc
  go_enter Tryz.func69, Tryz.ntmps69
  go_wp2
  go_ret
  have hb : Below w.heap.size w (w.alloc (.cells #[.slice ca bs.length cap, .int .i64 0, .int .u64 0] 173)) := (Below.refl _ _).alloc (Nat.le_refl _) _
  refine ⟨rfl, hb, ⟨ca, cap, bs, 0, 0, Nat.le_refl _, by omega, ?_, fun h0 cb co e => ?_, ?_⟩, by simp⟩
  · obtain ⟨c1, c2, c3, c4⟩ := HC.out
    exact ⟨c1.kept hb, c2, c3, fun h0 cb co e => by have := c4 h0 cb co e; omega⟩
  · have := HC.out.2.2.2 h0 cb co e
    omega
  · exact ⟨by simp, .inr ⟨w.heap.size, 1, #[.slice ca bs.length cap, .int .i64 0, .int .u64 0], rfl, Nat.zero_le _, heap_alloc_new w _, Nat.le_refl _, by unfold maxLen; omega, rfl, by simp⟩⟩
set_option maxHeartbeats 1000000 in
theorem next_any (N b k : Nat) (w : World) (hs : SrcAt w N b k) (hk : k < 4611686018427387904) :
    Calls Tryz.prog 199 #[.pointer (some ⟨b, 0, none⟩)] w (Drawn BR w N b (k + 1)) := by
  obtain ⟨ca, cap, bs, i, sd, hi, hbN, HC, hne, ho⟩ := hs
  have hl : bs.length ≤ 4096 := HC.2.2.1
  have q0 := ho.cellAt 0 (by decide)
  have q1 := ho.cellAt 1 (by decide)
  have q2 := ho.cellAt 2 (by decide)
  have f1 := ho.frozenAt 1
  have f2 := ho.frozenAt 2
  simp only [List.getElem?_cons_zero, List.getElem?_cons_succ] at q0 q1 q2
  have HCC := Lib.hid HC; clear HC
  have HO := Lib.hid ho; clear ho
  have HNE := Lib.hid hne; clear hne
  by_cases hlt : i < bs.length
  · obtain ⟨cb, co, rfl, hcs⟩ := HCC.out.1.open hlt
    have hx := hcs.at0 hlt rfl
    have hbb := HCC.out.2.1 _ (List.getElem_mem hlt)
    clear hcs
    simp only [Nat.mul_one] at hx
    go_enter Tryz.func199, Tryz.ntmps199
    go_wp2
    go_quiet (fail)
    have hd : Below w.heap.size w (w.drewN nq) := (Drew.drewN (Drew.refl _) nq).below _
    replace HO := Lib.hid (own_below HO.out hd)
    replace HCC := Lib.hid (HCC.out.grown (row := none) (grown_of_below hd) (fun _ _ _ _ => by simp))
    replace q0 := cell_kept q0 hd
    replace q1 := cell_kept q1 hd
    replace q2 := cell_kept q2 hd
    replace f1 := HO.out.frozenAt 1
    replace f2 := HO.out.frozenAt 2
    replace hx := cell_kept hx hd
    have G := Lib.hid (grown_of_below (row := some b) hd)
    generalize w.drewN nq = wa at *
    clear hd
    go_wp2
    go_quiet (fail)
    have hd : Below wa.heap.size wa (wa.drewN nq) := (Drew.drewN (Drew.refl _) nq).below _
    replace HO := Lib.hid (own_below HO.out hd)
    replace HCC := Lib.hid (HCC.out.grown (row := none) (grown_of_below hd) (fun _ _ _ _ => by simp))
    replace q0 := cell_kept q0 hd
    replace q1 := cell_kept q1 hd
    replace q2 := cell_kept q2 hd
    replace f1 := HO.out.frozenAt 1
    replace f2 := HO.out.frozenAt 2
    replace G := Lib.hid (grown_below G.out hd)
    generalize wa.drewN nq = wb at *
    clear hd hx
    go_wp2
    have hzr := wrap_within IntKind.u64 (IntKind.u64.wrap (IntKind.u64.wrap (sd * 6364136223846793005) + bs[i]) + 1442695040888963407)
    obtain ⟨z, hz⟩ : ∃ z : Nat, IntKind.u64.wrap (IntKind.u64.wrap (IntKind.u64.wrap (sd * 6364136223846793005) + bs[i]) + 1442695040888963407) = z := ⟨Int.toNat _, (Int.toNat_of_nonneg hzr.1).symm⟩
    rw [hz] at hzr ⊢
    have HZ := Lib.hid hzr
    clear hz hzr
    obtain ⟨o1, g1⟩ := HO.out.stored 1 (.int .i64 ((i : Int) + 1))
    obtain ⟨o2, g2⟩ := o1.stored 2 (.int .u64 z)
    have G2 := Lib.hid (grownBy_trans G.out (grownBy_trans g1 g2))
    have HC2 := Lib.hid (HCC.out.grown (grownBy_trans g1 g2) (fun h0 cb co e => by simpa [Value.ownBlock] using HNE.out h0 cb co e))
    have HO2 := Lib.hid o2
    clear o1 o2 g1 g2 HO HCC G q0 q1 q2 f1 f2
    have q0 := HO2.out.cellAt 0 (by decide)
    have q1 := HO2.out.cellAt 1 (by decide)
    have q2 := HO2.out.cellAt 2 (by decide)
    simp only [List.set_cons_succ, List.set_cons_zero, List.getElem?_cons_zero, List.getElem?_cons_succ] at q0 q1 q2
    generalize ((wb.setCell ⟨b, 1, none⟩ (.int .i64 ((i : Int) + 1))).setCell ⟨b, 2, none⟩ (.int .u64 (z : Int))) = wc at *
    go_quiet (fail)
    have hd : Below wc.heap.size wc (wc.drewN nq) := (Drew.drewN (Drew.refl _) nq).below _
    go_wp2
    go_ret
    exact ⟨_, hbb, rfl, ⟨_, _, _, i + 1, _, by omega, hbN, HC2.out.grown (row := none) (grown_of_below hd) (fun _ _ _ _ => by simp), HNE.out, own_below HO2.out hd⟩, grown_below G2.out hd⟩
  · go_enter Tryz.func199, Tryz.ntmps199
    go_wp2
    go_quiet (fail)
    have hd : Below w.heap.size w (w.drewN nq) := (Drew.drewN (Drew.refl _) nq).below _
    replace HO := Lib.hid (own_below HO.out hd)
    replace HCC := Lib.hid (HCC.out.grown (row := none) (grown_of_below hd) (fun _ _ _ _ => by simp))
    replace q0 := cell_kept q0 hd
    replace q1 := cell_kept q1 hd
    replace q2 := cell_kept q2 hd
    replace f1 := HO.out.frozenAt 1
    replace f2 := HO.out.frozenAt 2
    have G := Lib.hid (grown_of_below (row := some b) hd)
    generalize w.drewN nq = wb at *
    clear hd
    go_wp2
    have hzr := wrap_within IntKind.u64 (IntKind.u64.wrap (IntKind.u64.wrap (sd * 6364136223846793005)) + 1442695040888963407)
    obtain ⟨z, hz⟩ : ∃ z : Nat, IntKind.u64.wrap (IntKind.u64.wrap (IntKind.u64.wrap (sd * 6364136223846793005)) + 1442695040888963407) = z := ⟨Int.toNat _, (Int.toNat_of_nonneg hzr.1).symm⟩
    rw [hz] at hzr ⊢
    have HZ := Lib.hid hzr
    clear hz hzr
    obtain ⟨o1, g1⟩ := HO.out.stored 1 (.int .i64 ((i : Int) + 1))
    obtain ⟨o2, g2⟩ := o1.stored 2 (.int .u64 z)
    have G2 := Lib.hid (grownBy_trans G.out (grownBy_trans g1 g2))
    have HC2 := Lib.hid (HCC.out.grown (grownBy_trans g1 g2) (fun h0 cb co e => by simpa [Value.ownBlock] using HNE.out h0 cb co e))
    have HO2 := Lib.hid o2
    clear o1 o2 g1 g2 HO HCC G q0 q1 q2 f1 f2
    have q0 := HO2.out.cellAt 0 (by decide)
    have q1 := HO2.out.cellAt 1 (by decide)
    have q2 := HO2.out.cellAt 2 (by decide)
    simp only [List.set_cons_succ, List.set_cons_zero, List.getElem?_cons_zero, List.getElem?_cons_succ] at q0 q1 q2
    generalize ((wb.setCell ⟨b, 1, none⟩ (.int .i64 ((i : Int) + 1))).setCell ⟨b, 2, none⟩ (.int .u64 (z : Int))) = wc at *
    go_quiet (fail)
    have hd : Below wc.heap.size wc (wc.drewN nq) := (Drew.drewN (Drew.refl _) nq).below _
    replace q2 := cell_kept q2 hd
    have HC3 := Lib.hid (HC2.out.grown (row := none) (grown_of_below hd) (fun _ _ _ _ => by simp))
    have HO3 := Lib.hid (own_below HO2.out hd)
    have G3 := Lib.hid (grown_below G2.out hd)
    generalize wc.drewN nq = wd at *
    clear hd
    go_wp2
    go_ret
    exact ⟨_, low_byte HZ.out.2, rfl, ⟨_, _, _, i + 1, _, by omega, hbN, HC3.out, HNE.out, HO3.out⟩, G3.out⟩
/-- a number of n, from 0 -/
def PickP (n : Int) (x : Int) : Prop := 0 ≤ x ∧ (1 ≤ n → x < n) ∧ (n ≤ 1 → x = 0) ∧ x ≤ 65535
set_option maxHeartbeats 1000000 in
theorem pick_any (n : Int) (N b k : Nat) (w : World) (hs : SrcAt w N b k) (hk : k < 1099511627776) :
    Calls Tryz.prog 106 #[.pointer (some ⟨b, 0, none⟩), .int .i64 n] w (Drawn (PickP n) w N b (k + 2)) := by
  have HS := Lib.hid hs; clear hs
  by_cases h1 : n ≤ 1
  · go_enter Tryz.func106, Tryz.ntmps106
    go_wp2
    go_ret
    exact ⟨0, ⟨by omega, by omega, fun _ => rfl, by omega⟩, rfl, HS.out.mono (Nat.le_refl _) (by omega), World.grownBy_refl _ _⟩
  · by_cases h2 : n ≤ 200
    · go_enter Tryz.func106, Tryz.ntmps106
      go_wp2_with fail
      refine (next_any N b k w HS.out (by omega)).mono ?_
      rintro e w1 ⟨x, ⟨x0, x1⟩, rfl, s1, g1⟩
      have H1 := Lib.hid s1
      have G1 := Lib.hid g1
      clear s1 g1
      have m1 : x % n < n := Int.emod_lt_of_pos x (by omega)
      have m0 : 0 ≤ x % n := Int.emod_nonneg x (by omega)
      have M := Lib.hid m1
      clear m1
      go_wp2
      go_ret
      exact ⟨_, ⟨m0, fun _ => M.out, fun h => absurd h (by omega), by have := M.out; omega⟩, rfl, H1.out.mono (Nat.le_refl _) (by omega), G1.out⟩
    · go_enter Tryz.func106, Tryz.ntmps106
      go_wp2_with fail
      refine (next_any N b k w HS.out (by omega)).mono ?_
      rintro e w1 ⟨x, ⟨x0, x1⟩, rfl, s1, g1⟩
      have H1 := Lib.hid s1
      have G1 := Lib.hid g1
      clear s1 g1
      go_wp2_with fail
      refine (next_any N b (k + 1) w1 H1.out (by omega)).mono ?_
      rintro e w2 ⟨y, ⟨y0, y1⟩, rfl, s2, g2⟩
      have H2 := Lib.hid s2
      have G2 := Lib.hid (grownBy_trans G1.out g2)
      clear s2 g2
      have m1 : (x * 256 + y) % n < n := Int.emod_lt_of_pos _ (by omega)
      have m0 : 0 ≤ (x * 256 + y) % n := Int.emod_nonneg _ (by omega)
      have m2 : (x * 256 + y) % n ≤ x * 256 + y := by
        by_cases hq : x * 256 + y < n
        · rw [Int.emod_eq_of_lt (by omega) hq]
          exact Int.le_refl _
        · omega
      have M := Lib.hid (And.intro m1 m2)
      clear m1 m2
      go_wp2
      go_ret
      exact ⟨_, ⟨m0, fun _ => M.out.1, fun h => absurd h (by omega), by have := M.out.2; omega⟩, rfl, H2.out.mono (Nat.le_refl _) (by omega), G2.out⟩
/-- yes or no -/
def DrawnB (w : World) (N b k : Nat) (e : Ending) (w' : World) : Prop := ∃ y : Bool, e = .returned (.bool y) ∧ SrcAt w' N b k ∧ w.grownBy w' (some b)
theorem one_any (n : Int) (N b k : Nat) (w : World) (hs : SrcAt w N b k) (hk : k < 1099511627776) :
    Calls Tryz.prog 108 #[.pointer (some ⟨b, 0, none⟩), .int .i64 n] w (DrawnB w N b (k + 2)) := by
  have HS := Lib.hid hs; clear hs
  go_enter Tryz.func108, Tryz.ntmps108
  go_wp2_with fail
  refine (pick_any n N b k w HS.out hk).mono ?_
  rintro e w1 ⟨x, ⟨x0, _, _, _⟩, rfl, s1, g1⟩
  have H1 := Lib.hid s1
  have G1 := Lib.hid g1
  clear s1 g1
  go_wp2
  go_ret
  exact ⟨_, rfl, H1.out, G1.out⟩
theorem cells_new {α : Type} {enc : α → List Value} {sz : Nat} (he : ∀ x, (enc x).length = sz) (w : World) (xs : List α) (t : TypeId) : CellsAt (w.alloc (.cells (xs.flatMap enc).toArray t)) sz enc w.heap.size 0 xs := by
  intro i hi j v hv
  have hj : j < sz := by
    have := (List.getElem?_eq_some_iff.1 hv).1
    rwa [he] at this
  rw [Nat.zero_add]
  refine cell_new0 w _ t ?_
  rw [List.getElem?_toArray, flatMap_get he xs hi hj]
  exact hv
theorem among_any (xs : List Int) (g cap : Nat) (N b k : Nat) (w : World) (hs : SrcAt w N b k) (hk : k < 1099511627776) (hc : CellsAt w 1 I64.enc g 0 xs) (h0 : 0 < xs.length) (hl : xs.length ≤ 1048576) (hg : g ≠ b) :
    Calls Tryz.prog 196 #[.pointer (some ⟨b, 0, none⟩), .slice (some ⟨g, 0, none⟩) xs.length cap] w (Drawn (· ∈ xs) w N b (k + 2)) := by
  have HS := Lib.hid hs; clear hs
  have HC := Lib.hid hc; clear hc
  go_enter Tryz.func196, Tryz.ntmps196
  go_wp2_with fail
  refine (pick_any xs.length N b k w HS.out hk).mono ?_
  rintro e w1 ⟨x, ⟨x0, x1, _, _⟩, rfl, s1, g1⟩
  obtain ⟨i, rfl⟩ : ∃ i : Nat, x = i := ⟨x.toNat, (Int.toNat_of_nonneg x0).symm⟩
  have hi : i < xs.length := by have := x1 (by omega); omega
  have q := g1.cell (HC.out i hi 0 _ rfl) (by simpa using hg)
  simp only [Nat.zero_add, Nat.mul_one, Nat.add_zero] at q
  have H1 := Lib.hid s1
  have G1 := Lib.hid g1
  clear s1 g1 x0 x1
  go_wp2
  go_ret
  exact ⟨_, List.getElem_mem hi, rfl, H1.out, G1.out⟩
/-- one of some texts -/
def DrawnS (xs : List ByteArray) (w : World) (N b k : Nat) (e : Ending) (w' : World) : Prop := ∃ x ∈ xs, e = .returned (.string x) ∧ SrcAt w' N b k ∧ w.grownBy w' (some b)
theorem text_any (xs : List ByteArray) (g cap : Nat) (N b k : Nat) (w : World) (hs : SrcAt w N b k) (hk : k < 1099511627776) (hc : CellsAt w 1 Str.enc g 0 xs) (h0 : 0 < xs.length) (hl : xs.length ≤ 1048576) (hg : g ≠ b) :
    Calls Tryz.prog 145 #[.pointer (some ⟨b, 0, none⟩), .slice (some ⟨g, 0, none⟩) xs.length cap] w (DrawnS xs w N b (k + 2)) := by
  have HS := Lib.hid hs; clear hs
  have HC := Lib.hid hc; clear hc
  go_enter Tryz.func145, Tryz.ntmps145
  go_wp2_with fail
  refine (pick_any xs.length N b k w HS.out hk).mono ?_
  rintro e w1 ⟨x, ⟨x0, x1, _, _⟩, rfl, s1, g1⟩
  obtain ⟨i, rfl⟩ : ∃ i : Nat, x = i := ⟨x.toNat, (Int.toNat_of_nonneg x0).symm⟩
  have hi : i < xs.length := by have := x1 (by omega); omega
  have q := g1.cell (HC.out i hi 0 _ rfl) (by simpa using hg)
  simp only [Nat.zero_add, Nat.mul_one, Nat.add_zero] at q
  have H1 := Lib.hid s1
  have G1 := Lib.hid g1
  clear s1 g1 x0 x1
  go_wp2
  go_ret
  exact ⟨_, List.getElem_mem hi, rfl, H1.out, G1.out⟩
end Go.Proofs.YtjdcdhhbgijaoaaGreatDoor
