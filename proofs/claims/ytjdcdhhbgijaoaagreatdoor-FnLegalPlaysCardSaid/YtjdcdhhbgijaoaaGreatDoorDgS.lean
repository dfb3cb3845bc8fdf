/- Contracts: the source of choices from which the reference draws its examples. What is draw · Contracts: the reference's board with another square, and a board on which letters are lai · Plain rules: a region that draws its order, in which a value is loaded ahead of an operati -/
import Derived.Test.YtjdcdhhbgijaoaaGreatDoorVar
import Derived.Handy
import Derived.Laws.Closers25b
import Derived.Laws.Bits64b
import Derived.Test.YtjdcdhhbgijaoaaGreatDoorBrD
import Derived.Test.YtjdcdhhbgijaoaaGreatDoorDbS
import Derived.Deep.RegionHeld3
namespace Go.Proofs.YtjdcdhhbgijaoaaGreatDoor
open Go.ChangeShapes Go.WideShapes Go.ChangeAt Go.RowKit Go.Sort

def Byt.enc (x : Int) : List Value := [.int .u8 x]
theorem Byt.enc_len (x : Int) : (Byt.enc x).length = 1 := rfl
/-- the code that came in: it can be read, below block N -/
def CodeAt (w : World) (N : Nat) (ca : Option Addr) (bs : List Int) : Prop :=
  SliceAt w 1 Byt.enc ca bs ∧ (∀ x ∈ bs, 0 ≤ x ∧ x ≤ 255) ∧ bs.length ≤ 4096 ∧ (0 < bs.length → ∀ cb co, ca = some ⟨cb, co, none⟩ → cb < N)
/-- a source of choices at block b: its code lies below N and is not the source itself; its place is not past k -/
def SrcAt (w : World) (N b k : Nat) : Prop :=
  ∃ (ca : Option Addr) (cap : Nat) (bs : List Int) (i : Nat) (sd : Int), i ≤ k ∧ b < N ∧ CodeAt w N ca bs ∧ (0 < bs.length → ∀ cb co, ca = some ⟨cb, co, none⟩ → cb ≠ b) ∧
    w.ownsRow 0 173 3 (.slice (some ⟨b, 0, none⟩) 1 1) 1 [.slice ca bs.length cap, .int .i64 i, .int .u64 sd]
theorem CodeAt.grown {w w' : World} {N : Nat} {ca : Option Addr} {bs : List Int} (h : CodeAt w N ca bs) {row : Option Nat} (hg : w.grownBy w' row) (hne : 0 < bs.length → ∀ cb co, ca = some ⟨cb, co, none⟩ → some cb ≠ row) : CodeAt w' N ca bs := by
  obtain ⟨h1, h2, h3, h4⟩ := h
  refine ⟨?_, h2, h3, h4⟩
  rcases h1 with rfl | ⟨cb, co, rfl, hc⟩
  · exact .inl rfl
  · by_cases h0 : 0 < bs.length
    · exact .inr ⟨cb, co, rfl, fun i hi j v hv => hg.cell (hc i hi j v hv) (hne h0 cb co rfl)⟩
    · exact .inl (List.length_eq_zero_iff.1 (by omega))
theorem SrcAt.mono {w : World} {N b k N' k' : Nat} (h : SrcAt w N b k) (hN : N ≤ N') (hk : k ≤ k') : SrcAt w N' b k' := by
  obtain ⟨ca, cap, bs, i, sd, h1, h2, ⟨c1, c2, c3, c4⟩, h4, h5⟩ := h
  exact ⟨ca, cap, bs, i, sd, by omega, by omega, ⟨c1, c2, c3, fun h0 cb co e => by have := c4 h0 cb co e; omega⟩, h4, h5⟩
/-- A source stays where a row at or above N is written. -/
theorem SrcAt.grown {w w' : World} {N b k : Nat} (h : SrcAt w N b k) {row : Option Nat} (hg : w.grownBy w' row) (hr : ∀ g, row = some g → N ≤ g) : SrcAt w' N b k := by
  obtain ⟨ca, cap, bs, i, sd, h1, h2, h3, h4, h5⟩ := h
  have hne : ∀ q, q < N → some q ≠ row := fun q hq e => by have := hr q e.symm; omega
  refine ⟨ca, cap, bs, i, sd, h1, h2, h3.grown hg (fun h0 cb co e => hne cb (h3.2.2.2 h0 cb co e)), h4, h5.kept hg (.inr ?_)⟩
  simpa [Value.ownBlock] using hne b h2
theorem SrcAt.kept {w w' : World} {N b k : Nat} (h : SrcAt w N b k) (hb : Below w.heap.size w w') : SrcAt w' N b k := h.grown (row := none) (grown_of_below hb) (fun g e => by cases e)
theorem SrcAt.lt {w : World} {N b k : Nat} (h : SrcAt w N b k) : b < N := by obtain ⟨_, _, _, _, _, _, h2, _⟩ := h; exact h2
theorem SrcAt.size {w : World} {N b k : Nat} (h : SrcAt w N b k) : b < w.heap.size := by
  obtain ⟨_, _, _, _, _, _, _, _, _, h5⟩ := h
  exact (h5.lt b rfl).2
/-- what is drawn: a number of which P holds; the source goes on -/
def Drawn (P : Int → Prop) (w : World) (N b k : Nat) (e : Ending) (w' : World) : Prop := ∃ x : Int, P x ∧ e = .returned (.int .i64 x) ∧ SrcAt w' N b k ∧ w.grownBy w' (some b)
def BR (x : Int) : Prop := 0 ≤ x ∧ x ≤ 255

theorem low_byte {z : Nat} (hz : (z : Int) ≤ IntKind.u64.max) : BR (wrap64 (bits BinOp.and IntKind.u64 ((z : Int) / 1099511627776) 255)) := by
  have e : IntKind.u64.max = 18446744073709551615 := by decide
  rw [e] at hz
  have h := bits_and_u64_nat (z / 1099511627776) 255 (by omega) (by omega)
  have h2 : z / 1099511627776 &&& 255 ≤ 255 := Nat.and_le_right
  rw [show ((z : Int) / 1099511627776) = ((z / 1099511627776 : Nat) : Int) from by omega, show (255 : Int) = ((255 : Nat) : Int) from rfl, h]
  generalize z / 1099511627776 &&& 255 = y at *
  rw [IntWalk.wrap64_in _ (by omega)]
  exact ⟨by omega, by omega⟩
def Str.enc (s : ByteArray) : List Value := [.string s]
theorem l00From_any (ca : Option Addr) (cap : Nat) (bs : List Int) (w : World) (hc : CodeAt w w.heap.size ca bs) :
    Calls Tryz.prog 69 #[.slice ca bs.length cap] w fun e w' => e = .returned (.pointer (some ⟨w.heap.size, 0, none⟩)) ∧ Below w.heap.size w w' ∧ SrcAt w' (w.heap.size + 1) w.heap.size 0 ∧ w'.heap.size = w.heap.size + 1 := by
  have HC := Lib.hid hc; clear hc
  go_enter Tryz.func69, Tryz.ntmps69
  go_wp2
  go_ret
  have hb : Below w.heap.size w (w.alloc (.cells #[.slice ca bs.length cap, .int .i64 0, .int .u64 0] 173)) := (Below.refl _ _).alloc (Nat.le_refl _) _
  refine ⟨rfl, hb, ⟨ca, cap, bs, 0, 0, Nat.le_refl _, by omega, ?_, fun h0 cb co e => ?_, ?_⟩, by simp⟩
  · obtain ⟨c1, c2, c3, c4⟩ := HC.out
    exact ⟨c1.kept hb, c2, c3, fun h0 cb co e => by have := c4 h0 cb co e; omega⟩
  · have := HC.out.2.2.2 h0 cb co e
    omega
  · exact ⟨by simp, .inr ⟨w.heap.size, 1, #[.slice ca bs.length cap, .int .i64 0, .int .u64 0], rfl, Nat.zero_le _, heap_alloc_new w _, Nat.le_refl _, by unfold maxLen; omega, rfl, by simp⟩⟩
set_option maxHeartbeats 1000000 in
theorem next_any (N b k : Nat) (w : World) (hs : SrcAt w N b k) (hk : k < 4611686018427387904) :
    Calls Tryz.prog 199 #[.pointer (some ⟨b, 0, none⟩)] w (Drawn BR w N b (k + 1)) := by
  obtain ⟨ca, cap, bs, i, sd, hi, hbN, HC, hne, ho⟩ := hs
  have hl : bs.length ≤ 4096 := HC.2.2.1
  have q0 := ho.cellAt 0 (by decide)
  have q1 := ho.cellAt 1 (by decide)
  have q2 := ho.cellAt 2 (by decide)
  have f1 := ho.frozenAt 1
  have f2 := ho.frozenAt 2
  simp only [List.getElem?_cons_zero, List.getElem?_cons_succ] at q0 q1 q2
  have HCC := Lib.hid HC; clear HC
  have HO := Lib.hid ho; clear ho
  have HNE := Lib.hid hne; clear hne
  by_cases hlt : i < bs.length
  · obtain ⟨cb, co, rfl, hcs⟩ := HCC.out.1.open hlt
    have hx := hcs.at0 hlt rfl
    have hbb := HCC.out.2.1 _ (List.getElem_mem hlt)
    clear hcs
    simp only [Nat.mul_one] at hx
    go_enter Tryz.func199, Tryz.ntmps199
    go_wp2
    go_quiet (fail)
    have hd : Below w.heap.size w (w.drewN nq) := (Drew.drewN (Drew.refl _) nq).below _
    replace HO := Lib.hid (own_below HO.out hd)
    replace HCC := Lib.hid (HCC.out.grown (row := none) (grown_of_below hd) (fun _ _ _ _ => by simp))
    replace q0 := cell_kept q0 hd
    replace q1 := cell_kept q1 hd
    replace q2 := cell_kept q2 hd
    replace f1 := HO.out.frozenAt 1
    replace f2 := HO.out.frozenAt 2
    replace hx := cell_kept hx hd
    have G := Lib.hid (grown_of_below (row := some b) hd)
    generalize w.drewN nq = wa at *
    clear hd
    go_wp2
    go_quiet (fail)
    have hd : Below wa.heap.size wa (wa.drewN nq) := (Drew.drewN (Drew.refl _) nq).below _
    replace HO := Lib.hid (own_below HO.out hd)
    replace HCC := Lib.hid (HCC.out.grown (row := none) (grown_of_below hd) (fun _ _ _ _ => by simp))
    replace q0 := cell_kept q0 hd
    replace q1 := cell_kept q1 hd
    replace q2 := cell_kept q2 hd
    replace f1 := HO.out.frozenAt 1
    replace f2 := HO.out.frozenAt 2
    replace G := Lib.hid (grown_below G.out hd)
    generalize wa.drewN nq = wb at *
    clear hd hx
    go_wp2
    have hzr := wrap_within IntKind.u64 (IntKind.u64.wrap (IntKind.u64.wrap (sd * 6364136223846793005) + bs[i]) + 1442695040888963407)
    obtain ⟨z, hz⟩ : ∃ z : Nat, IntKind.u64.wrap (IntKind.u64.wrap (IntKind.u64.wrap (sd * 6364136223846793005) + bs[i]) + 1442695040888963407) = z := ⟨Int.toNat _, (Int.toNat_of_nonneg hzr.1).symm⟩
    rw [hz] at hzr ⊢
    have HZ := Lib.hid hzr
    clear hz hzr
    obtain ⟨o1, g1⟩ := HO.out.stored 1 (.int .i64 ((i : Int) + 1))
    obtain ⟨o2, g2⟩ := o1.stored 2 (.int .u64 z)
    have G2 := Lib.hid (grownBy_trans G.out (grownBy_trans g1 g2))
    have HC2 := Lib.hid (HCC.out.grown (grownBy_trans g1 g2) (fun h0 cb co e => by simpa [Value.ownBlock] using HNE.out h0 cb co e))
    have HO2 := Lib.hid o2
    clear o1 o2 g1 g2 HO HCC G q0 q1 q2 f1 f2
    have q0 := HO2.out.cellAt 0 (by decide)
    have q1 := HO2.out.cellAt 1 (by decide)
    have q2 := HO2.out.cellAt 2 (by decide)
    simp only [List.set_cons_succ, List.set_cons_zero, List.getElem?_cons_zero, List.getElem?_cons_succ] at q0 q1 q2
    generalize ((wb.setCell ⟨b, 1, none⟩ (.int .i64 ((i : Int) + 1))).setCell ⟨b, 2, none⟩ (.int .u64 (z : Int))) = wc at *
    go_quiet (fail)
    have hd : Below wc.heap.size wc (wc.drewN nq) := (Drew.drewN (Drew.refl _) nq).below _
    go_wp2
    go_ret
    exact ⟨_, hbb, rfl, ⟨_, _, _, i + 1, _, by omega, hbN, HC2.out.grown (row := none) (grown_of_below hd) (fun _ _ _ _ => by simp), HNE.out, own_below HO2.out hd⟩, grown_below G2.out hd⟩
  · go_enter Tryz.func199, Tryz.ntmps199
    go_wp2
    go_quiet (fail)
    have hd : Below w.heap.size w (w.drewN nq) := (Drew.drewN (Drew.refl _) nq).below _
    replace HO := Lib.hid (own_below HO.out hd)
    replace HCC := Lib.hid (HCC.out.grown (row := none) (grown_of_below hd) (fun _ _ _ _ => by simp))
    replace q0 := cell_kept q0 hd
    replace q1 := cell_kept q1 hd
    replace q2 := cell_kept q2 hd
    replace f1 := HO.out.frozenAt 1
    replace f2 := HO.out.frozenAt 2
    have G := Lib.hid (grown_of_below (row := some b) hd)
    generalize w.drewN nq = wb at *
    clear hd
    go_wp2
    have hzr := wrap_within IntKind.u64 (IntKind.u64.wrap (IntKind.u64.wrap (sd * 6364136223846793005)) + 1442695040888963407)
    obtain ⟨z, hz⟩ : ∃ z : Nat, IntKind.u64.wrap (IntKind.u64.wrap (IntKind.u64.wrap (sd * 6364136223846793005)) + 1442695040888963407) = z := ⟨Int.toNat _, (Int.toNat_of_nonneg hzr.1).symm⟩
    rw [hz] at hzr ⊢
    have HZ := Lib.hid hzr
    clear hz hzr
    obtain ⟨o1, g1⟩ := HO.out.stored 1 (.int .i64 ((i : Int) + 1))
    obtain ⟨o2, g2⟩ := o1.stored 2 (.int .u64 z)
    have G2 := Lib.hid (grownBy_trans G.out (grownBy_trans g1 g2))
    have HC2 := Lib.hid (HCC.out.grown (grownBy_trans g1 g2) (fun h0 cb co e => by simpa [Value.ownBlock] using HNE.out h0 cb co e))
    have HO2 := Lib.hid o2
    clear o1 o2 g1 g2 HO HCC G q0 q1 q2 f1 f2
    have q0 := HO2.out.cellAt 0 (by decide)
    have q1 := HO2.out.cellAt 1 (by decide)
    have q2 := HO2.out.cellAt 2 (by decide)
    simp only [List.set_cons_succ, List.set_cons_zero, List.getElem?_cons_zero, List.getElem?_cons_succ] at q0 q1 q2
    generalize ((wb.setCell ⟨b, 1, none⟩ (.int .i64 ((i : Int) + 1))).setCell ⟨b, 2, none⟩ (.int .u64 (z : Int))) = wc at *
    go_quiet (fail)
    have hd : Below wc.heap.size wc (wc.drewN nq) := (Drew.drewN (Drew.refl _) nq).below _
    replace q2 := cell_kept q2 hd
    have HC3 := Lib.hid (HC2.out.grown (row := none) (grown_of_below hd) (fun _ _ _ _ => by simp))
    have HO3 := Lib.hid (own_below HO2.out hd)
    have G3 := Lib.hid (grown_below G2.out hd)
    generalize wc.drewN nq = wd at *
    clear hd
    go_wp2
    go_ret
    exact ⟨_, low_byte HZ.out.2, rfl, ⟨_, _, _, i + 1, _, by omega, hbN, HC3.out, HNE.out, HO3.out⟩, G3.out⟩
/-- a number of n, from 0 -/
def PickP (n : Int) (x : Int) : Prop := 0 ≤ x ∧ (1 ≤ n → x < n) ∧ (n ≤ 1 → x = 0) ∧ x ≤ 65535
set_option maxHeartbeats 1000000 in
theorem pick_any (n : Int) (N b k : Nat) (w : World) (hs : SrcAt w N b k) (hk : k < 1099511627776) :
    Calls Tryz.prog 106 #[.pointer (some ⟨b, 0, none⟩), .int .i64 n] w (Drawn (PickP n) w N b (k + 2)) := by
  have HS := Lib.hid hs; clear hs
  by_cases h1 : n ≤ 1
  · go_enter Tryz.func106, Tryz.ntmps106
    go_wp2
    go_ret
    exact ⟨0, ⟨by omega, by omega, fun _ => rfl, by omega⟩, rfl, HS.out.mono (Nat.le_refl _) (by omega), World.grownBy_refl _ _⟩
  · by_cases h2 : n ≤ 200
    · go_enter Tryz.func106, Tryz.ntmps106
      go_wp2_with fail
      refine (next_any N b k w HS.out (by omega)).mono ?_
      rintro e w1 ⟨x, ⟨x0, x1⟩, rfl, s1, g1⟩
      have H1 := Lib.hid s1
      have G1 := Lib.hid g1
      clear s1 g1
      have m1 : x % n < n := Int.emod_lt_of_pos x (by omega)
      have m0 : 0 ≤ x % n := Int.emod_nonneg x (by omega)
      have M := Lib.hid m1
      clear m1
      go_wp2
      go_ret
      exact ⟨_, ⟨m0, fun _ => M.out, fun h => absurd h (by omega), by have := M.out; omega⟩, rfl, H1.out.mono (Nat.le_refl _) (by omega), G1.out⟩
    · go_enter Tryz.func106, Tryz.ntmps106
      go_wp2_with fail
      refine (next_any N b k w HS.out (by omega)).mono ?_
      rintro e w1 ⟨x, ⟨x0, x1⟩, rfl, s1, g1⟩
      have H1 := Lib.hid s1
      have G1 := Lib.hid g1
      clear s1 g1
      go_wp2_with fail
      refine (next_any N b (k + 1) w1 H1.out (by omega)).mono ?_
      rintro e w2 ⟨y, ⟨y0, y1⟩, rfl, s2, g2⟩
      have H2 := Lib.hid s2
      have G2 := Lib.hid (grownBy_trans G1.out g2)
      clear s2 g2
      have m1 : (x * 256 + y) % n < n := Int.emod_lt_of_pos _ (by omega)
      have m0 : 0 ≤ (x * 256 + y) % n := Int.emod_nonneg _ (by omega)
      have m2 : (x * 256 + y) % n ≤ x * 256 + y := by
        by_cases hq : x * 256 + y < n
        · rw [Int.emod_eq_of_lt (by omega) hq]
          exact Int.le_refl _
        · omega
      have M := Lib.hid (And.intro m1 m2)
      clear m1 m2
      go_wp2
      go_ret
      exact ⟨_, ⟨m0, fun _ => M.out.1, fun h => absurd h (by omega), by have := M.out.2; omega⟩, rfl, H2.out.mono (Nat.le_refl _) (by omega), G2.out⟩
/-- yes or no -/
def DrawnB (w : World) (N b k : Nat) (e : Ending) (w' : World) : Prop := ∃ y : Bool, e = .returned (.bool y) ∧ SrcAt w' N b k ∧ w.grownBy w' (some b)
theorem one_any (n : Int) (N b k : Nat) (w : World) (hs : SrcAt w N b k) (hk : k < 1099511627776) :
    Calls Tryz.prog 108 #[.pointer (some ⟨b, 0, none⟩), .int .i64 n] w (DrawnB w N b (k + 2)) := by
  have HS := Lib.hid hs; clear hs
  go_enter Tryz.func108, Tryz.ntmps108
  go_wp2_with fail
  refine (pick_any n N b k w HS.out hk).mono ?_
  rintro e w1 ⟨x, ⟨x0, _, _, _⟩, rfl, s1, g1⟩
  have H1 := Lib.hid s1
  have G1 := Lib.hid g1
  clear s1 g1
  go_wp2
  go_ret
  exact ⟨_, rfl, H1.out, G1.out⟩
theorem cells_new {α : Type} {enc : α → List Value} {sz : Nat} (he : ∀ x, (enc x).length = sz) (w : World) (xs : List α) (t : TypeId) : CellsAt (w.alloc (.cells (xs.flatMap enc).toArray t)) sz enc w.heap.size 0 xs := by
  intro i hi j v hv
  have hj : j < sz := by
    have := (List.getElem?_eq_some_iff.1 hv).1
    rwa [he] at this
  rw [Nat.zero_add]
  refine cell_new0 w _ t ?_
  rw [List.getElem?_toArray, flatMap_get he xs hi hj]
  exact hv
theorem among_any (xs : List Int) (g cap : Nat) (N b k : Nat) (w : World) (hs : SrcAt w N b k) (hk : k < 1099511627776) (hc : CellsAt w 1 I64.enc g 0 xs) (h0 : 0 < xs.length) (hl : xs.length ≤ 1048576) (hg : g ≠ b) :
    Calls Tryz.prog 196 #[.pointer (some ⟨b, 0, none⟩), .slice (some ⟨g, 0, none⟩) xs.length cap] w (Drawn (· ∈ xs) w N b (k + 2)) := by
  have HS := Lib.hid hs; clear hs
  have HC := Lib.hid hc; clear hc
  go_enter Tryz.func196, Tryz.ntmps196
  go_wp2_with fail
  refine (pick_any xs.length N b k w HS.out hk).mono ?_
  rintro e w1 ⟨x, ⟨x0, x1, _, _⟩, rfl, s1, g1⟩
  obtain ⟨i, rfl⟩ : ∃ i : Nat, x = i := ⟨x.toNat, (Int.toNat_of_nonneg x0).symm⟩
  have hi : i < xs.length := by have := x1 (by omega); omega
  have q := g1.cell (HC.out i hi 0 _ rfl) (by simpa using hg)
  simp only [Nat.zero_add, Nat.mul_one, Nat.add_zero] at q
  have H1 := Lib.hid s1
  have G1 := Lib.hid g1
  clear s1 g1 x0 x1
  go_wp2
  go_ret
  exact ⟨_, List.getElem_mem hi, rfl, H1.out, G1.out⟩
/-- one of some texts -/
def DrawnS (xs : List ByteArray) (w : World) (N b k : Nat) (e : Ending) (w' : World) : Prop := ∃ x ∈ xs, e = .returned (.string x) ∧ SrcAt w' N b k ∧ w.grownBy w' (some b)
theorem text_any (xs : List ByteArray) (g cap : Nat) (N b k : Nat) (w : World) (hs : SrcAt w N b k) (hk : k < 1099511627776) (hc : CellsAt w 1 Str.enc g 0 xs) (h0 : 0 < xs.length) (hl : xs.length ≤ 1048576) (hg : g ≠ b) :
    Calls Tryz.prog 145 #[.pointer (some ⟨b, 0, none⟩), .slice (some ⟨g, 0, none⟩) xs.length cap] w (DrawnS xs w N b (k + 2)) := by
  have HS := Lib.hid hs; clear hs
  have HC := Lib.hid hc; clear hc
  go_enter Tryz.func145, Tryz.ntmps145
  go_wp2_with fail
  refine (pick_any xs.length N b k w HS.out hk).mono ?_
  rintro e w1 ⟨x, ⟨x0, x1, _, _⟩, rfl, s1, g1⟩
  obtain ⟨i, rfl⟩ : ∃ i : Nat, x = i := ⟨x.toNat, (Int.toNat_of_nonneg x0).symm⟩
  have hi : i < xs.length := by have := x1 (by omega); omega
  have q := g1.cell (HC.out i hi 0 _ rfl) (by simpa using hg)
  simp only [Nat.zero_add, Nat.mul_one, Nat.add_zero] at q
  have H1 := Lib.hid s1
  have G1 := Lib.hid g1
  clear s1 g1 x0 x1
  go_wp2
  go_ret
  exact ⟨_, List.getElem_mem hi, rfl, H1.out, G1.out⟩
end Go.Proofs.YtjdcdhhbgijaoaaGreatDoor
namespace Go.Proofs.YtjdcdhhbgijaoaaGreatDoor
open Go.ChangeShapes Go.WideShapes Go.ChangeAt Go.RowKit Go.Sort

/-- a valid board comes back; nothing below is written -/
def GoodBack (n : Nat) (w : World) (e : Ending) (w' : World) : Prop :=
  ∃ b : Brd, b.Good n ∧ e = .returned (.agg #[.int .i64 n, .string b.premium, .string b.cells]) ∧ Below w.heap.size w w'
theorem letB_cellB {x : Int} (h : letB x = true) : cellB x = true := by
  unfold letB at h
  unfold cellB
  rw [Bool.or_assoc, h, Bool.or_true]
theorem Brd.Good.put {b : Brd} {n : Nat} (h : b.Good n) (i : Nat) {x : UInt8} (hx : letB x.toNat = true) : (⟨n, b.premium, mkB (b.cells.data.toList.set i x)⟩ : Brd).Good n := by
  refine ⟨rfl, h.lo, h.hi, h.prem, ?_, h.okP, ?_⟩
  · show (mkB _).size = _
    rw [mkB_size, List.length_set]
    have := h.cells
    simpa using this
  · unfold allC
    show (mkB _).data.toList.all _ = true
    rw [mkB_data, List.all_eq_true]
    intro y hy
    rcases List.mem_or_eq_of_mem_set hy with h1 | h1
    · have := h.okC
      unfold allC at this
      exact List.all_eq_true.1 this y h1
    · rw [h1]; exact letB_cellB hx
set_option maxRecDepth 100000 in
set_option maxHeartbeats 4000000 in
theorem l11Set_any (b : Brd) (n : Nat) (r c : Int) (x : UInt8) (g o : Nat) (w : World) (hb : b.Good n) (hg : BAt w g o b) (hi : b.inB r c = true) (hx : letB x.toNat = true) :
    Calls Tryz.prog 252 #[.pointer (some ⟨g, o, none⟩), .int .i64 r, .int .i64 c, .int .u8 (x.toNat : Int)] w (GoodBack n w) := by
  obtain ⟨i, j, q, rfl, rfl, hq, hqi, hl, hlt, hin, hjn, _⟩ := hb.place hi
  have HGD := Lib.hid (hb.put (q + j) hx)
  have hb0 : Below w.heap.size w (w.alloc (.cells #[.int .i64 0, .string ⟨#[]⟩, .string ⟨#[]⟩] 25)) := (Below.refl _ _).alloc (Nat.le_refl _) _
  have V0 := Lib.hid (VarAt.new w 25 [.int .i64 0, .string ⟨#[]⟩, .string ⟨#[]⟩])
  have hg1 := hg.kept hb0
  have hlg : g < w.heap.size := hg.lt
  obtain ⟨g0, g1, g2⟩ := hg1
  rw [hb.size] at g0
  have h15 := hb.hi
  have HCL : Hid (b.cells.data.toList.length = b.cells.size) := Lib.hid (by simp)
  clear hb hi hq hg hx
  go_enter Tryz.func252, Tryz.ntmps252
  go_upto_region 1 with fail
  generalize w.alloc (.cells #[.int .i64 0, .string ⟨#[]⟩, .string ⟨#[]⟩] 25) = w1 at *
  obtain ⟨cp, w2, hcp, hcv, hr, hd⟩ := bytes_of b.cells w1
  have HR := Lib.hid hr
  have hz1 := hb0.size
  have hl1 := V0.out.lt
  clear hr
  go_upto_region 2 with fail
  replace g0 := cell_kept g0 hd
  replace g1 := cell_kept g1 hd
  replace g2 := cell_kept g2 hd
  replace V0 := Lib.hid (V0.out.kept hd)
  replace hb0 := hb0.trans (hd.mono hb0.size)
  clear hcv hd
  generalize hG : w1.heap.size = G at *
  have wr1 : IntKind.i64.wrap (q : Int) = q := IntWalk.i64_in _ (by omega)
  have wr2 : IntKind.i64.wrap ((q : Int) + (j : Int)) = (q : Int) + j := IntWalk.i64_in _ (by omega)
  have wr3 : ((q : Int) + (j : Int)).toNat = q + j := by omega
  have wr4 : (0 : Int) ≤ (q : Int) + (j : Int) := by omega
  have wr5 : (q : Int) + (j : Int) < (b.cells.size : Int) := by omega
  have hmx : q + j < b.cells.data.toList.length := by rw [HCL.out]; exact hl
  have st := HR.out.cell (i := q + j) hmx
  have sf := HR.out.free (i := q + j) hmx
  obtain ⟨h9, k9⟩ := HR.out.set (q + j) x
  have gn : g ≠ G := by omega
  go_upto_region 3 with fail
  have HR9 := Lib.hid h9
  replace g0 := k9.cell g0 (by simpa using gn)
  replace g1 := k9.cell g1 (by simpa using gn)
  replace V0 := Lib.hid (V0.out.grown k9 (by simp; omega))
  replace hb0 := hb0.grown k9 hb0.size (fun q h => by cases h; omega)
  have hwG : w.heap.size < G := by omega
  clear h9 k9 st sf g2 HR wr1 wr2 wr3 wr4 wr5 hz1 hl1
  generalize World.setCell w2 ⟨G, q + j, none⟩ (.int .u8 (x.toNat : Int)) = w3 at *
  have HNL : Hid (b.cells.size = (b.cells.data.toList.set (q + j) x).length) := Lib.hid (by rw [List.length_set, HCL.out])
  have hd : Below w3.heap.size w3 w3.drew := (Below.refl _ _).drew
  have hS : RowB w3 G (b.cells.data.toList.set (q + j) x) ∧ w3.cell? ⟨g, o, none⟩ = some (.int .i64 (n : Int)) ∧ w3.cell? ⟨g, o + 1, none⟩ = some (.string b.premium) := ⟨HR9.out, g0, g1⟩
  replace hS : RowB w3.drew G (b.cells.data.toList.set (q + j) x) ∧ w3.drew.cell? ⟨g, o, none⟩ = some (.int .i64 (n : Int)) ∧ w3.drew.cell? ⟨g, o + 1, none⟩ = some (.string b.premium) := ⟨hS.1.kept hd, cell_kept hS.2.1 hd, cell_kept hS.2.2 hd⟩
  replace V0 := Lib.hid (V0.out.kept hd)
  replace hb0 := hb0.trans (hd.mono hb0.size)
  clear hd g0 g1 HR9
  refine wp_region_held_drew (S := fun W => RowB W G (b.cells.data.toList.set (q + j) x) ∧ W.cell? ⟨g, o, none⟩ = some (.int .i64 (n : Int)) ∧ W.cell? ⟨g, o + 1, none⟩ = some (.string b.premium)) (by kernel_rfl) hS (fun hHeld => ?_)
  generalize w3.drew = wd at *
  refine slotA 0 26 (.pointer (some ⟨g, o, none⟩)) ?_
  simp only [S3]
  refine slotA 1 27 (.pointer (some ⟨g, o, none⟩)) ?_
  simp only [S3]
  refine slotA 2 28 (.pointer (some ⟨g, o, none⟩)) ?_
  simp only [S3]
  refine slotA 3 29 (.int .i64 (n : Int)) ?_ (hy := Or.inl ⟨by rfl, fun w' hS => by have c9 := hS.2.1; go_simp⟩)
  simp only [S3]
  refine slotA 4 30 (.pointer (some ⟨g, o, none⟩)) ?_
  simp only [S3]
  refine slotA 5 31 (.pointer (some ⟨g, o, none⟩)) ?_
  simp only [S3]
  refine slotA 6 32 (.pointer (some ⟨g, o + 1, none⟩)) ?_
  simp only [S3]
  refine slotA 7 33 (.string b.premium) ?_ (hy := Or.inl ⟨by rfl, fun w' hS => by have c9 := hS.2.2; go_simp⟩)
  simp only [S3]
  refine slotA 8 34 (.slice (some ⟨G, 0, none⟩) b.cells.size cp) ?_
  simp only [S3]
  refine slotA 9 35 (.string (mkB (b.cells.data.toList.set (q + j) x))) ?_ (hy := Or.inl ⟨by rfl, fun w' hS => by have c9 := hS.1.str (n := b.cells.size) (cap := cp) HNL.out; go_simp⟩)
  simp only [S3]
  generalize hcs : mkB (b.cells.data.toList.set (q + j) x) = cs at *
  refine slotA 10 36 (.agg #[.int .i64 (n : Int), .string b.premium, .string cs]) ?_
  simp only [S3]
  refine wpAnyH_ready (rs := [11]) (by kernel_rfl) (by simp) ?_
  refine AllReadyH.cons (o := _) rfl (fun K hK => ?_) AllReadyH.nil
  obtain ⟨o2, GG⟩ := V0.out.put [.int .i64 (n : Int), .string b.premium, .string cs] rfl
  have tR := V0.out.there (n := 3) rfl
  have hS2 : RowB (wd.setCells w.heap.size 0 [.int .i64 (n : Int), .string b.premium, .string cs]) G (b.cells.data.toList.set (q + j) x) ∧ (wd.setCells w.heap.size 0 [.int .i64 (n : Int), .string b.premium, .string cs]).cell? ⟨g, o, none⟩ = some (.int .i64 (n : Int)) ∧ (wd.setCells w.heap.size 0 [.int .i64 (n : Int), .string b.premium, .string cs]).cell? ⟨g, o + 1, none⟩ = some (.string b.premium) :=
    ⟨hS.1.grown GG (by simp; omega), GG.cell hS.2.1 (by simp; omega), GG.cell hS.2.2 (by simp; omega)⟩
  refine mk_store rfl rfl 25 (.tmp 8) (.tmp 36) rfl w.heap.size 0 #[.int .i64 (n : Int), .string b.premium, .string cs] rfl rfl tR (by kernel_rfl) (by simp [Value.oneCell']) ?_
  refine hK.out _ _ hS2 (fun hHeld2 => ?_)
  clear hK K hHeld
  have hb9 := hb0.grown GG hb0.size (fun q h => by cases h; exact Nat.le_refl _)
  change wpAnyH _ _ _ _ _ _ _ _ (World.setCells _ w.heap.size 0 [.int .i64 (n : Int), .string b.premium, .string cs])
  have e0 := o2.cell (i := 0) (v := .int .i64 (n : Int)) rfl
  have e1 := o2.cell (i := 1) (v := .string b.premium) rfl
  have e2 := o2.cell (i := 2) (v := .string cs) rfl
  clear o2 GG hS hS2 tR V0 hb0
  generalize World.setCells _ w.heap.size 0 [.int .i64 (n : Int), .string b.premium, .string cs] = wz at *
  refine wpAnyH_done (by kernel_rfl) ?_ _
  clear hHeld2
  go_wp2
  refine bodyPost_ret (v := .agg #[.int .i64 (n : Int), .string b.premium, .string cs]) (by simp [results, Tryz.results252, go_sem, e0, e1, e2]) rfl ?_
  exact ⟨_, HGD.out, rfl, hb9⟩
/-- the letters of a text -/
def allLet (s : ByteArray) : Bool := s.data.toList.all fun c => letB c.toNat
theorem allLet_at {s : ByteArray} (h : allLet s = true) {i : Nat} (hi : i < s.size) : letB s[i].toNat = true := by
  unfold allLet at h
  refine List.all_eq_true.1 h _ ?_
  have : s[i] = s.data.toList[i]'(by simpa using hi) := rfl
  rw [this]
  exact List.getElem_mem _
set_option maxRecDepth 100000 in
set_option maxHeartbeats 8000000 in
theorem l11Lay_any (b : Brd) (n : Nat) (row col : Int) (down : Bool) (word : ByteArray) (w : World) (hB : b.Good n) (hr : 0 ≤ row ∧ row ≤ 100) (hc : 0 ≤ col ∧ col ≤ 100) (hw : word.size ≤ 20) (hl : allLet word = true) :
    Calls Tryz.prog 198 #[.agg #[.int .i64 (n : Int), .string b.premium, .string b.cells], .int .i64 row, .int .i64 col, .bool down, .string word] w (GoodBack n w) := by
  obtain ⟨hr0, hr1⟩ := hr
  obtain ⟨hc0, hc1⟩ := hc
  have HL : Hid (∀ i (h : i < word.size), letB (word[i].toNat : Int) = true) := Lib.hid (fun i h => allLet_at hl h)
  obtain ⟨w2, hw2⟩ : ∃ w2, w2 = (w.alloc (.cells #[.int .i64 (n : Int), .string b.premium, .string b.cells] 25)).alloc (.cells #[.int .i64 0, .string ⟨#[]⟩, .string ⟨#[]⟩] 25) := ⟨_, rfl⟩
  have hb : Below w.heap.size w w2 := by rw [hw2]; exact ((Below.refl _ _).alloc (Nat.le_refl _) _).alloc (by simp) _
  have V5 : Hid (VarAt w2 w.heap.size 25 [.int .i64 (n : Int), .string b.premium, .string b.cells]) := by
    rw [hw2]
    exact Lib.hid ((VarAt.new w 25 [.int .i64 (n : Int), .string b.premium, .string b.cells]).kept ((Below.refl _ _).alloc (Nat.le_refl _) _))
  have VR : Hid (VarAt w2 (w.heap.size + 1) 25 [.int .i64 0, .string ⟨#[]⟩, .string ⟨#[]⟩]) := by
    rw [hw2]
    have := VarAt.new (w.alloc (.cells #[.int .i64 (n : Int), .string b.premium, .string b.cells] 25)) 25 [.int .i64 0, .string ⟨#[]⟩, .string ⟨#[]⟩]
    simp only [World.size_alloc] at this
    exact Lib.hid this
  have HW2 := Lib.hid hw2
  have HGD := Lib.hid hB
  clear hw2 hB hl
  go_enter Tryz.func198, Tryz.ntmps198
  go_upto_region 1 with fail
  rw [← HW2.out]
  clear HW2
  go_wp2_with fail
  go_loopw [11] (fun iv wr => ∃ (i : Nat) (b : Brd), i ≤ word.size ∧ iv = .int .i64 i ∧ Hid (b.Good n) ∧ Hid (VarAt wr w.heap.size 25 [.int .i64 (n : Int), .string b.premium, .string b.cells]) ∧ Hid (VarAt wr (w.heap.size + 1) 25 [.int .i64 0, .string ⟨#[]⟩, .string ⟨#[]⟩]) ∧ Below w.heap.size w wr) (fun iv _ => word.size - (intOf iv).toNat)
  case atStart => exact ⟨0, b, Nat.zero_le _, rfl, HGD, V5, VR, hb⟩
  case round =>
    clear HGD V5 VR hb
    obtain ⟨i, b, hi, rfl, HGD, V5, VR, hb⟩ := hrel
    by_cases hil : i < word.size
    · have HB : Hid (BAt wr w.heap.size 0 b) := Lib.hid ⟨by have := V5.out.cell (i := 0) rfl; rw [HGD.out.size]; exact this, V5.out.cell (i := 1) rfl, V5.out.cell (i := 2) rfl⟩
      have wi : IntKind.i64.wrap ((i : Int) + 1) = (i : Int) + 1 := IntWalk.i64_in _ (by omega)
      have wi2 : IntKind.i64.wrap (col + (i : Int)) = col + (i : Int) := IntWalk.i64_in _ (by omega)
      have wi3 : IntKind.i64.wrap (row + (i : Int)) = row + (i : Int) := IntWalk.i64_in _ (by omega)
      have hk0 : (0 : Int) ≤ (i : Int) := by omega
      have hk1 : (i : Int) < (word.size : Int) := by omega
      cases down with
      | true =>
        have HIN : Hid (∀ W, BAt W w.heap.size 0 b → Calls Tryz.prog 240 #[.pointer (some ⟨w.heap.size, 0, none⟩), .int .i64 (row + (i : Int)), .int .i64 (col)] W fun e w' => e = .returned (.bool (b.inB (row + (i : Int)) (col))) ∧ Below W.heap.size W w') := Lib.hid (fun W h => (l11In_any b n (row + (i : Int)) (col) w.heap.size 0 W HGD.out h).mono (by rintro e w' ⟨h1, h2⟩; exact ⟨h1, by rw [← h2]; exact Below.refl _ _⟩))
        have HAT : Hid (b.inB (row + (i : Int)) (col) = true → ∀ W, BAt W w.heap.size 0 b → Calls Tryz.prog 192 #[.pointer (some ⟨w.heap.size, 0, none⟩), .int .i64 (row + (i : Int)), .int .i64 (col)] W fun e w' => e = .returned (.int .u8 ((b.cell (row + (i : Int)) (col)).toNat : Int)) ∧ Below W.heap.size W w') := Lib.hid (fun hin W h => (l11At_any b n (row + (i : Int)) (col) w.heap.size 0 W HGD.out h hin).mono (by rintro e w' ⟨h1, h2⟩; exact ⟨h1, h2.below _⟩))
        have HST : Hid (b.inB (row + (i : Int)) (col) = true → ∀ W, BAt W w.heap.size 0 b → Calls Tryz.prog 252 #[.pointer (some ⟨w.heap.size, 0, none⟩), .int .i64 (row + (i : Int)), .int .i64 (col), .int .u8 (word[i].toNat : Int)] W (GoodBack n W)) := Lib.hid (fun hin W h => l11Set_any b n (row + (i : Int)) (col) word[i] w.heap.size 0 W HGD.out h hin (HL.out i hil))
        generalize hcell : b.cell (row + (i : Int)) (col) = ch at *
        generalize hin : b.inB (row + (i : Int)) (col) = yes at *
        clear hcell hin
        go_upto_region 9 with fail
        cases yes with
        | false =>
          refine wp_region_quiet_below (by kernel_rfl) (by kernel_rfl) ?_
          repeat (go_big_quiet_step ((first | (go_at_call 240; exact Calls.regrown_of (HIN.out _ (HB.out.kept (below_regrown _ _ _)))) | (go_at_call 192; exact Calls.regrown_of (HAT.out _ (HB.out.kept (below_regrown _ _ _)))))))
          refine wpQuiet_nil ?_
          intro wx hw'
          have hd := below_of_ex hw'
          clear hw'
          replace hb := hb.trans (hd.mono hb.size)
          replace V5 := Lib.hid (V5.out.kept hd)
          replace VR := Lib.hid (VR.out.kept hd)
          replace HB := Lib.hid (HB.out.kept hd)
          clear hd
          clear HB HIN HAT HST
          go_wp2
          go_roundw
          case rel => exact ⟨i + 1, b, by omega, by go_num, HGD, V5, VR, hb⟩
          case measure => simp [intOf]; omega
        | true =>
          replace HAT := Lib.hid (HAT.out rfl)
          replace HST := Lib.hid (HST.out rfl)
          cases h46 : ((ch.toNat : Int) == 46) with
          | true =>
            refine wp_region_quiet_below (by kernel_rfl) (by kernel_rfl) ?_
            repeat (go_big_quiet_step ((first | (go_at_call 240; exact Calls.regrown_of (HIN.out _ (HB.out.kept (below_regrown _ _ _)))) | (go_at_call 192; exact Calls.regrown_of (HAT.out _ (HB.out.kept (below_regrown _ _ _)))))))
            refine wpQuiet_nil ?_
            intro wx hw'
            have hd := below_of_ex hw'
            clear hw'
            replace hb := hb.trans (hd.mono hb.size)
            replace V5 := Lib.hid (V5.out.kept hd)
            replace VR := Lib.hid (VR.out.kept hd)
            replace HB := Lib.hid (HB.out.kept hd)
            clear hd
            go_wp2_with fail
            refine (HST.out _ HB.out).mono ?_
            rintro e w3 ⟨b2, g2, rfl, hd⟩
            replace hb := hb.trans (hd.mono hb.size)
            replace V5 := Lib.hid (V5.out.kept hd)
            replace VR := Lib.hid (VR.out.kept hd)
            clear hd
            clear HB HIN HAT HST HGD
            have HGD := Lib.hid g2
            clear g2
            have c0 := V5.out.cell (i := 0) rfl
            have c1 := V5.out.cell (i := 1) rfl
            have c2 := V5.out.cell (i := 2) rfl
            have f0 := V5.out.free 0
            have f1 := V5.out.free 1
            have f2 := V5.out.free 2
            obtain ⟨o0, k0⟩ := V5.out.set 0 (.int .i64 (n : Int))
            obtain ⟨o1, k1⟩ := o0.set 1 (.string b2.premium)
            obtain ⟨o2, k2⟩ := o1.set 2 (.string b2.cells)
            have GG := grownBy_trans (grownBy_trans k0 k1) k2
            clear o0 o1 k0 k1 k2
            replace hb := hb.grown GG hb.size (fun q h => by cases h; omega)
            replace VR := Lib.hid (VR.out.grown GG (by simp))
            replace V5 := Lib.hid o2
            clear o2 GG
            go_wp2
            go_roundw
            case rel => exact ⟨i + 1, b2, by omega, by go_num, HGD, V5, VR, hb⟩
            case measure => simp [intOf]; omega
          | false =>
            cases hlt : ((ch.toNat : Int) == (word[i].toNat : Int)) with
            | true =>
              refine wp_region_quiet_below (by kernel_rfl) (by kernel_rfl) ?_
              repeat (go_big_quiet_step ((first | (go_at_call 240; exact Calls.regrown_of (HIN.out _ (HB.out.kept (below_regrown _ _ _)))) | (go_at_call 192; exact Calls.regrown_of (HAT.out _ (HB.out.kept (below_regrown _ _ _)))))))
              refine wpQuiet_nil ?_
              intro wx hw'
              have hd := below_of_ex hw'
              clear hw'
              replace hb := hb.trans (hd.mono hb.size)
              replace V5 := Lib.hid (V5.out.kept hd)
              replace VR := Lib.hid (VR.out.kept hd)
              replace HB := Lib.hid (HB.out.kept hd)
              clear hd
              go_wp2_with fail
              refine (HST.out _ HB.out).mono ?_
              rintro e w3 ⟨b2, g2, rfl, hd⟩
              replace hb := hb.trans (hd.mono hb.size)
              replace V5 := Lib.hid (V5.out.kept hd)
              replace VR := Lib.hid (VR.out.kept hd)
              clear hd
              clear HB HIN HAT HST HGD
              have HGD := Lib.hid g2
              clear g2
              have c0 := V5.out.cell (i := 0) rfl
              have c1 := V5.out.cell (i := 1) rfl
              have c2 := V5.out.cell (i := 2) rfl
              have f0 := V5.out.free 0
              have f1 := V5.out.free 1
              have f2 := V5.out.free 2
              obtain ⟨o0, k0⟩ := V5.out.set 0 (.int .i64 (n : Int))
              obtain ⟨o1, k1⟩ := o0.set 1 (.string b2.premium)
              obtain ⟨o2, k2⟩ := o1.set 2 (.string b2.cells)
              have GG := grownBy_trans (grownBy_trans k0 k1) k2
              clear o0 o1 k0 k1 k2
              replace hb := hb.grown GG hb.size (fun q h => by cases h; omega)
              replace VR := Lib.hid (VR.out.grown GG (by simp))
              replace V5 := Lib.hid o2
              clear o2 GG
              go_wp2
              go_roundw
              case rel => exact ⟨i + 1, b2, by omega, by go_num, HGD, V5, VR, hb⟩
              case measure => simp [intOf]; omega
            | false =>
              refine wp_region_quiet_below (by kernel_rfl) (by kernel_rfl) ?_
              repeat (go_big_quiet_step ((first | (go_at_call 240; exact Calls.regrown_of (HIN.out _ (HB.out.kept (below_regrown _ _ _)))) | (go_at_call 192; exact Calls.regrown_of (HAT.out _ (HB.out.kept (below_regrown _ _ _)))))))
              refine wpQuiet_nil ?_
              intro wx hw'
              have hd := below_of_ex hw'
              clear hw'
              replace hb := hb.trans (hd.mono hb.size)
              replace V5 := Lib.hid (V5.out.kept hd)
              replace VR := Lib.hid (VR.out.kept hd)
              replace HB := Lib.hid (HB.out.kept hd)
              clear hd
              clear HB HIN HAT HST
              go_wp2
              go_roundw
              case rel => exact ⟨i + 1, b, by omega, by go_num, HGD, V5, VR, hb⟩
              case measure => simp [intOf]; omega
      | false =>
        have HIN : Hid (∀ W, BAt W w.heap.size 0 b → Calls Tryz.prog 240 #[.pointer (some ⟨w.heap.size, 0, none⟩), .int .i64 (row), .int .i64 (col + (i : Int))] W fun e w' => e = .returned (.bool (b.inB (row) (col + (i : Int)))) ∧ Below W.heap.size W w') := Lib.hid (fun W h => (l11In_any b n (row) (col + (i : Int)) w.heap.size 0 W HGD.out h).mono (by rintro e w' ⟨h1, h2⟩; exact ⟨h1, by rw [← h2]; exact Below.refl _ _⟩))
        have HAT : Hid (b.inB (row) (col + (i : Int)) = true → ∀ W, BAt W w.heap.size 0 b → Calls Tryz.prog 192 #[.pointer (some ⟨w.heap.size, 0, none⟩), .int .i64 (row), .int .i64 (col + (i : Int))] W fun e w' => e = .returned (.int .u8 ((b.cell (row) (col + (i : Int))).toNat : Int)) ∧ Below W.heap.size W w') := Lib.hid (fun hin W h => (l11At_any b n (row) (col + (i : Int)) w.heap.size 0 W HGD.out h hin).mono (by rintro e w' ⟨h1, h2⟩; exact ⟨h1, h2.below _⟩))
        have HST : Hid (b.inB (row) (col + (i : Int)) = true → ∀ W, BAt W w.heap.size 0 b → Calls Tryz.prog 252 #[.pointer (some ⟨w.heap.size, 0, none⟩), .int .i64 (row), .int .i64 (col + (i : Int)), .int .u8 (word[i].toNat : Int)] W (GoodBack n W)) := Lib.hid (fun hin W h => l11Set_any b n (row) (col + (i : Int)) word[i] w.heap.size 0 W HGD.out h hin (HL.out i hil))
        generalize hcell : b.cell (row) (col + (i : Int)) = ch at *
        generalize hin : b.inB (row) (col + (i : Int)) = yes at *
        clear hcell hin
        go_upto_region 9 with fail
        cases yes with
        | false =>
          refine wp_region_quiet_below (by kernel_rfl) (by kernel_rfl) ?_
          repeat (go_big_quiet_step ((first | (go_at_call 240; exact Calls.regrown_of (HIN.out _ (HB.out.kept (below_regrown _ _ _)))) | (go_at_call 192; exact Calls.regrown_of (HAT.out _ (HB.out.kept (below_regrown _ _ _)))))))
          refine wpQuiet_nil ?_
          intro wx hw'
          have hd := below_of_ex hw'
          clear hw'
          replace hb := hb.trans (hd.mono hb.size)
          replace V5 := Lib.hid (V5.out.kept hd)
          replace VR := Lib.hid (VR.out.kept hd)
          replace HB := Lib.hid (HB.out.kept hd)
          clear hd
          clear HB HIN HAT HST
          go_wp2
          go_roundw
          case rel => exact ⟨i + 1, b, by omega, by go_num, HGD, V5, VR, hb⟩
          case measure => simp [intOf]; omega
        | true =>
          replace HAT := Lib.hid (HAT.out rfl)
          replace HST := Lib.hid (HST.out rfl)
          cases h46 : ((ch.toNat : Int) == 46) with
          | true =>
            refine wp_region_quiet_below (by kernel_rfl) (by kernel_rfl) ?_
            repeat (go_big_quiet_step ((first | (go_at_call 240; exact Calls.regrown_of (HIN.out _ (HB.out.kept (below_regrown _ _ _)))) | (go_at_call 192; exact Calls.regrown_of (HAT.out _ (HB.out.kept (below_regrown _ _ _)))))))
            refine wpQuiet_nil ?_
            intro wx hw'
            have hd := below_of_ex hw'
            clear hw'
            replace hb := hb.trans (hd.mono hb.size)
            replace V5 := Lib.hid (V5.out.kept hd)
            replace VR := Lib.hid (VR.out.kept hd)
            replace HB := Lib.hid (HB.out.kept hd)
            clear hd
            go_wp2_with fail
            refine (HST.out _ HB.out).mono ?_
            rintro e w3 ⟨b2, g2, rfl, hd⟩
            replace hb := hb.trans (hd.mono hb.size)
            replace V5 := Lib.hid (V5.out.kept hd)
            replace VR := Lib.hid (VR.out.kept hd)
            clear hd
            clear HB HIN HAT HST HGD
            have HGD := Lib.hid g2
            clear g2
            have c0 := V5.out.cell (i := 0) rfl
            have c1 := V5.out.cell (i := 1) rfl
            have c2 := V5.out.cell (i := 2) rfl
            have f0 := V5.out.free 0
            have f1 := V5.out.free 1
            have f2 := V5.out.free 2
            obtain ⟨o0, k0⟩ := V5.out.set 0 (.int .i64 (n : Int))
            obtain ⟨o1, k1⟩ := o0.set 1 (.string b2.premium)
            obtain ⟨o2, k2⟩ := o1.set 2 (.string b2.cells)
            have GG := grownBy_trans (grownBy_trans k0 k1) k2
            clear o0 o1 k0 k1 k2
            replace hb := hb.grown GG hb.size (fun q h => by cases h; omega)
            replace VR := Lib.hid (VR.out.grown GG (by simp))
            replace V5 := Lib.hid o2
            clear o2 GG
            go_wp2
            go_roundw
            case rel => exact ⟨i + 1, b2, by omega, by go_num, HGD, V5, VR, hb⟩
            case measure => simp [intOf]; omega
          | false =>
            cases hlt : ((ch.toNat : Int) == (word[i].toNat : Int)) with
            | true =>
              refine wp_region_quiet_below (by kernel_rfl) (by kernel_rfl) ?_
              repeat (go_big_quiet_step ((first | (go_at_call 240; exact Calls.regrown_of (HIN.out _ (HB.out.kept (below_regrown _ _ _)))) | (go_at_call 192; exact Calls.regrown_of (HAT.out _ (HB.out.kept (below_regrown _ _ _)))))))
              refine wpQuiet_nil ?_
              intro wx hw'
              have hd := below_of_ex hw'
              clear hw'
              replace hb := hb.trans (hd.mono hb.size)
              replace V5 := Lib.hid (V5.out.kept hd)
              replace VR := Lib.hid (VR.out.kept hd)
              replace HB := Lib.hid (HB.out.kept hd)
              clear hd
              go_wp2_with fail
              refine (HST.out _ HB.out).mono ?_
              rintro e w3 ⟨b2, g2, rfl, hd⟩
              replace hb := hb.trans (hd.mono hb.size)
              replace V5 := Lib.hid (V5.out.kept hd)
              replace VR := Lib.hid (VR.out.kept hd)
              clear hd
              clear HB HIN HAT HST HGD
              have HGD := Lib.hid g2
              clear g2
              have c0 := V5.out.cell (i := 0) rfl
              have c1 := V5.out.cell (i := 1) rfl
              have c2 := V5.out.cell (i := 2) rfl
              have f0 := V5.out.free 0
              have f1 := V5.out.free 1
              have f2 := V5.out.free 2
              obtain ⟨o0, k0⟩ := V5.out.set 0 (.int .i64 (n : Int))
              obtain ⟨o1, k1⟩ := o0.set 1 (.string b2.premium)
              obtain ⟨o2, k2⟩ := o1.set 2 (.string b2.cells)
              have GG := grownBy_trans (grownBy_trans k0 k1) k2
              clear o0 o1 k0 k1 k2
              replace hb := hb.grown GG hb.size (fun q h => by cases h; omega)
              replace VR := Lib.hid (VR.out.grown GG (by simp))
              replace V5 := Lib.hid o2
              clear o2 GG
              go_wp2
              go_roundw
              case rel => exact ⟨i + 1, b2, by omega, by go_num, HGD, V5, VR, hb⟩
              case measure => simp [intOf]; omega
            | false =>
              refine wp_region_quiet_below (by kernel_rfl) (by kernel_rfl) ?_
              repeat (go_big_quiet_step ((first | (go_at_call 240; exact Calls.regrown_of (HIN.out _ (HB.out.kept (below_regrown _ _ _)))) | (go_at_call 192; exact Calls.regrown_of (HAT.out _ (HB.out.kept (below_regrown _ _ _)))))))
              refine wpQuiet_nil ?_
              intro wx hw'
              have hd := below_of_ex hw'
              clear hw'
              replace hb := hb.trans (hd.mono hb.size)
              replace V5 := Lib.hid (V5.out.kept hd)
              replace VR := Lib.hid (VR.out.kept hd)
              replace HB := Lib.hid (HB.out.kept hd)
              clear hd
              clear HB HIN HAT HST
              go_wp2
              go_roundw
              case rel => exact ⟨i + 1, b, by omega, by go_num, HGD, V5, VR, hb⟩
              case measure => simp [intOf]; omega
    · obtain rfl : i = word.size := by omega
      have c0 := V5.out.cell (i := 0) rfl
      have c1 := V5.out.cell (i := 1) rfl
      have c2 := V5.out.cell (i := 2) rfl
      generalize hbp : b.premium = bp at *
      generalize hbc : b.cells = bc at *
      have t0 := VR.out.cell (i := 0) rfl
      have t1 := VR.out.cell (i := 1) rfl
      have t2 := VR.out.cell (i := 2) rfl
      have u0 := VR.out.free 0
      have u1 := VR.out.free 1
      have u2 := VR.out.free 2
      obtain ⟨o0, k0⟩ := VR.out.set 0 (.int .i64 (n : Int))
      obtain ⟨o1, k1⟩ := o0.set 1 (.string bp)
      obtain ⟨o2, k2⟩ := o1.set 2 (.string bc)
      have GG := grownBy_trans (grownBy_trans k0 k1) k2
      have hb9 := hb.grown GG hb.size (fun q h => by cases h; omega)
      have e0 := o2.cell (i := 0) (v := .int .i64 (n : Int)) rfl
      have e1 := o2.cell (i := 1) (v := .string bp) rfl
      have e2 := o2.cell (i := 2) (v := .string bc) rfl
      clear o0 o1 o2 k0 k1 k2 GG V5 VR HL
      go_wp2
      refine bodyPost_ret (v := .agg #[.int .i64 (n : Int), .string bp, .string bc]) (by simp [results, Tryz.results198, go_sem, e0, e1, e2]) rfl ?_
      exact ⟨b, HGD.out, by rw [hbp, hbc], hb9⟩
end Go.Proofs.YtjdcdhhbgijaoaaGreatDoor
namespace Go.Proofs.YtjdcdhhbgijaoaaGreatDoor
open Go.ChangeShapes Go.WideShapes Go.ChangeAt Go.RowKit Go.Sort

section
variable {P : Program} {md : Region.Mode} {ops : Array Oper} {Q : Exit → Act → World → Prop} {q : Nat} {S : World → Prop}
/-- S holds as long as operation q has not come up -/
def okS (q : Nat) (S : World → Prop) (l : Array Bool) (w : World) : Prop := l.getD q true = false → S w
/-- whatever order is picked from here on, and S holds behind each operation until q has come up -/
def wpAnyG (P : Program) (md : Region.Mode) (ops : Array Oper) (Q : Exit → Act → World → Prop) (q : Nat) (S : World → Prop) : Nat → Array Bool → Act → World → Prop
  | 0, listed, a, w => Region.ready md ops listed = [] ∧ Q .normal a w
  | fuel + 1, listed, a, w =>
    (Region.ready md ops listed = [] → Q .normal a w) ∧
    ∀ i ∈ Region.ready md ops listed, wpOp P ops Q i (fun a' w' => okS q S (listed.setIfInBounds i true) w' ∧ wpAnyG P md ops Q q S fuel (listed.setIfInBounds i true) a' w') a w
theorem wpAny_of_G : ∀ (fuel : Nat) (listed : Array Bool) (a : Act) (w : World), wpAnyG P md ops Q q S fuel listed a w → wpAny P md ops Q fuel listed a w
  | 0, _, _, _, h => h
  | fuel + 1, _, _, _, h => ⟨h.1, fun i hi => wpOp_mono (fun a' w' h' => wpAny_of_G fuel _ a' w' h'.2) (h.2 i hi)⟩
def waitsFor (md : Region.Mode) (ops : Array Oper) (q i : Nat) : Prop := ∃ oq, ops[q]? = some oq ∧ ∃ e ∈ oq.after, Region.binds md e = true ∧ e.on = i
def waitsB (md : Region.Mode) (ops : Array Oper) (q i : Nat) : Bool := match ops[q]? with | some o => o.after.toList.any (fun e => Region.binds md e && e.on == i) | none => false
theorem waitsFor_of {i : Nat} (h : waitsB md ops q i = true) : waitsFor md ops q i := by
  unfold waitsB at h
  cases ho : ops[q]? with
  | none => rw [ho] at h; cases h
  | some o =>
    rw [ho] at h
    obtain ⟨e, he, h2⟩ := List.any_eq_true.1 h
    rw [Bool.and_eq_true, beq_iff_eq] at h2
    exact ⟨o, ho, e, by simpa using he, h2.1, h2.2⟩
theorem not_ready {i : Nat} (h : waitsFor md ops q i) {listed : Array Bool} (hi : listed.getD i true = false) : q ∉ Region.ready md ops listed := by
  obtain ⟨oq, hoq, e, he, hb, heq⟩ := h
  intro hq
  obtain ⟨_, o, ho, hall⟩ := mem_ready.1 hq
  rw [hoq] at ho
  cases ho
  have h1 := hall e he hb
  rw [heq] at h1
  rcases Nat.lt_or_ge i listed.size with h' | h'
  · simp [h'] at hi h1; rw [hi] at h1; cases h1
  · simp [Array.getElem?_eq_none h'] at h1
theorem wpAnyG_first {i : Nat} {oi : Oper} {v : Value} (hi : ops[i]? = some oi) (hsel : ∀ (j : Nat) (o : Oper) cs b, ops[j]? = some o → o.op ≠ .select cs b)
    (hQ : ∀ c a w, Q (.panic c) (a.put oi.dst v) w → Q (.panic c) a w) (hqi : i ≠ q) (T : World → Prop) (hST : ∀ w, S w → T w) :
    ∀ (fuel : Nat) (listed : Array Bool) (a : Act) (w : World),
      (∀ j oj, ops[j]? = some oj → j ≠ i → listed.getD j true = false → (∀ e ∈ oj.after, Region.binds md e = true → e.on ≠ i) → oi.apart ops oj = true) →
      i ∈ Region.ready md ops listed → ((∀ w, T w) ∨ (listed.getD q true = false ∧ waitsFor md ops q i)) → T w → okS q S listed w → YieldsIf P ops T oi v a →
      wpAnyG P md ops Q q S fuel (listed.setIfInBounds i true) (a.put oi.dst v) w → wpAnyG P md ops Q q S (fuel + 1) listed a w := by
  have same : ∀ l : Array Bool, (l.setIfInBounds i true).getD q true = l.getD q true := fun l => getD_set_ne true hqi
  have okI : ∀ {l : Array Bool} {w : World}, okS q S l w → okS q S (l.setIfInBounds i true) w := fun {l w} h e => h (by rw [← same l]; exact e)
  intro fuel
  induction fuel with
  | zero =>
    intro listed a w _ hr _ hT hS hy H
    refine ⟨fun h => (by rw [h] at hr; cases hr), fun j hj => ?_⟩
    by_cases hji : j = i
    · subst hji; exact hy.wpOp hi hT ⟨okI hS, H⟩
    · have := ready_mono hj hji
      rw [H.1] at this
      cases this
  | succ fuel ih =>
    intro listed a w hfree hr hq hT hS hy H
    refine ⟨fun h => (by rw [h] at hr; cases hr), fun j hj => ?_⟩
    by_cases hji : j = i
    · subst hji; exact hy.wpOp hi hT ⟨okI hS, H⟩
    · have h1 := H.2 j (ready_mono hj hji)
      obtain ⟨hjun, oj, hoj, hall⟩ := mem_ready.1 hj
      have hnot : ∀ e ∈ oj.after, Region.binds md e = true → e.on ≠ i := fun e he hb heq => by
        have h1 := hall e he hb
        have h0 := (mem_ready.1 hr).1
        rw [heq] at h1
        rcases Nat.lt_or_ge i listed.size with h' | h'
        · simp [h'] at h0 h1; rw [h0] at h1; cases h1
        · simp [Array.getElem?_eq_none h'] at h1
      have h2 := wpOp_putIf hoj (hfree j oj hoj hji hjun hnot) (fun cs b => hsel i oi cs b hi) (fun cs b => hsel j oj cs b hoj) hQ hy h1
      have hfree' : ∀ k ok, ops[k]? = some ok → k ≠ i → (listed.setIfInBounds j true).getD k true = false →
          (∀ e ∈ ok.after, Region.binds md e = true → e.on ≠ i) → oi.apart ops ok = true := fun k ok hk hki hun hno => by
        refine hfree k ok hk hki ?_ hno
        by_cases hjk : j = k
        · subst hjk; exact hjun
        · rw [getD_set_ne true hjk] at hun; exact hun
      have hcomm := Array.setIfInBounds_comm (xs := listed) true true hji
      have hq' : (∀ w, T w) ∨ ((listed.setIfInBounds j true).getD q true = false ∧ waitsFor md ops q i) := by
        rcases hq with h | ⟨h3, h4⟩
        · exact .inl h
        · refine .inr ⟨?_, h4⟩
          have hjq : j ≠ q := fun e => not_ready h4 (mem_ready.1 hr).1 (e ▸ hj)
          rw [getD_set_ne true hjq]; exact h3
      refine wpOp_mono (fun a' w' h3 => ?_) h2
      have hk : okS q S (listed.setIfInBounds j true) w' := fun e => h3.2.1 (by rw [← hcomm, same]; exact e)
      refine ⟨hk, ih (listed.setIfInBounds j true) a' w' hfree' (ready_mono hr (Ne.symm hji)) hq' ?_ hk h3.1 ?_⟩
      · rcases hq' with h | ⟨h4, _⟩
        · exact h w'
        · exact hST w' (hk h4)
      · rw [hcomm]
        exact h3.2.2
/-- an operation is taken first that yields alike everywhere -/
theorem slotG {oi : Oper} {fuel : Nat} {listed : Array Bool} {a : Act} {w : World} (i d : Nat) (v : Value)
    (h : wpAnyG P md ops Q q S fuel (listed.setIfInBounds i true) { a with tmps := a.tmps.setIfInBounds d v } w)
    (hi : ops[i]? = some oi := by exact rfl) (hd : oi.dst = some d := by exact rfl) (hs : Region.noSelect ops = true := by kernel_rfl) (hf : Region.free md ops listed i = true := by kernel_rfl) (hr : (Region.ready md ops listed).contains i = true := by kernel_rfl) (hqi : i ≠ q := by decide)
    (hQ : ∀ c a w, Q (.panic c) (a.put oi.dst v) w → Q (.panic c) a w := by exact fun _ _ _ h => h) (hy : YieldsIf P ops (fun _ => True) oi v a := by exact Or.inl ⟨by rfl, fun w' _ => by go_simp⟩) (hS : okS q S listed w := by assumption) : wpAnyG P md ops Q q S (fuel + 1) listed a w :=
  wpAnyG_first hi (Region.noSelect_spec hs) hQ hqi (fun _ => True) (fun _ _ => trivial) fuel listed a w (Region.free_spec hi hf) (by simpa using hr) (.inl fun _ => trivial) trivial hS hy (by rw [hd]; exact h)
/-- an operation is taken first for which q waits -/
theorem slotL {oi : Oper} {fuel : Nat} {listed : Array Bool} {a : Act} {w : World} (i d : Nat) (v : Value)
    (h : wpAnyG P md ops Q q S fuel (listed.setIfInBounds i true) { a with tmps := a.tmps.setIfInBounds d v } w) 
    (hi : ops[i]? = some oi := by exact rfl) (hd : oi.dst = some d := by exact rfl) (hs : Region.noSelect ops = true := by kernel_rfl) (hf : Region.free md ops listed i = true := by kernel_rfl) (hr : (Region.ready md ops listed).contains i = true := by kernel_rfl) (hqi : i ≠ q := by decide)
    (hQ : ∀ c a w, Q (.panic c) (a.put oi.dst v) w → Q (.panic c) a w := by exact fun _ _ _ h => h) (hw : waitsFor md ops q i) (hq : listed.getD q true = false) (hS : S w) (hy : YieldsIf P ops S oi v a) : wpAnyG P md ops Q q S (fuel + 1) listed a w :=
  wpAnyG_first hi (Region.noSelect_spec hs) hQ hqi S (fun _ h => h) fuel listed a w (Region.free_spec hi hf) (by simpa using hr) (.inr ⟨hq, hw⟩) hS (fun _ => hS) hy (by rw [hd]; exact h)
/-- one operation alone may come up -/
theorem oneG {fuel : Nat} {listed : Array Bool} {a : Act} {w : World} {o : Oper} (i : Nat) (hr : Region.ready md ops listed = [i]) (ho : ops[i]? = some o)
    (h : ∀ K' : Act → World → Prop, Shut (∀ a w, okS q S (listed.setIfInBounds i true) w → (okS q S (listed.setIfInBounds i true) w → wpAnyG P md ops Q q S fuel (listed.setIfInBounds i true) a w) → K' a w) → if Region.wanted o (yielded ops a.tmps) = true then Oper.wp P o a w K' Q else K' (a.put o.dst undef) w) :
    wpAnyG P md ops Q q S (fuel + 1) listed a w := by
  refine ⟨fun h0 => ?_, fun j hj => ?_⟩
  · rw [hr] at h0
    cases h0
  · rw [hr] at hj
    obtain rfl := List.mem_singleton.1 hj
    exact wpOp_step ho (fun K' hK => h K' (fun a w hS hW => hK a w ⟨hS, hW hS⟩))
theorem doneG {listed : Array Bool} {a : Act} {w : World} (hr : Region.ready md ops listed = []) (h : Q .normal a w) : ∀ fuel, wpAnyG P md ops Q q S fuel listed a w
  | 0 => ⟨hr, h⟩
  | _ + 1 => ⟨fun _ => h, by rw [hr]; simp⟩
/-- the beginning -/
theorem wp_region_G {id : Nat} {a : Act} {w : World} (q : Nat) (S : World → Prop) (hm : P.follows .mixedOrders = true) (hS : S w.drew)
    (h : okS q S (Array.replicate ops.size false) w.drew → wpAnyG P .any ops Q q S ops.size (Array.replicate ops.size false) a w.drew) : (Code.region id ops true).wp P Q a w :=
  wp_region_any hm (wpAny_of_G _ _ _ _ (h (fun _ => hS)))
end
end Go.Proofs.YtjdcdhhbgijaoaaGreatDoor
