/- Contract: the reference's draw of a play on a board. For valid boards of at most nine rows; nothing is said of the play but that its word is short. -/
import Derived.Test.YtjdcdhhbgijaoaaGreatDoorDbE
import Derived.Deep.DeepCutAuto
import Derived.Deep.CutBlock
namespace Go.Proofs.YtjdcdhhbgijaoaaGreatDoor
open Go.ChangeShapes Go.WideShapes Go.ChangeAt Go.RowKit Go.Sort

/-- a play with a short word is drawn; the source goes on -/
def PlayDrawn (w : World) (N b k : Nat) (e : Ending) (w' : World) : Prop :=
  ∃ p : Ply, p.word.size ≤ 20 ∧ e = .returned (.agg #[.int .i64 p.row, .int .i64 p.col, .bool p.down, .string p.word]) ∧ SrcAt w' N b k ∧ w.grownBy w' (some b)
theorem bat_of {w : World} {g : Nat} {t : TypeId} {n : Int} {P C : ByteArray} (h : VarAt w g t [.int .i64 n, .string P, .string C]) : BAt w g 0 ⟨n, P, C⟩ :=
  ⟨h.cell (i := 0) rfl, h.cell (i := 1) rfl, h.cell (i := 2) rfl⟩
theorem RowB.one {w : World} {g : Nat} {l : List UInt8} (h : RowB w g l) {i : Nat} (hi : i < l.length) (cap : Nat) :
    (convert 22 9 (.slice (some ⟨g, i, none⟩) 1 cap)).run Tryz.prog w = .ok (.string (mkB [l[i]])) w := by
  refine bytes_str rfl fun j hj => ?_
  obtain rfl : j = 0 := by simpa using hj
  rw [Go.Addr.add_lit, Nat.add_zero]
  exact h.cell hi
def drawTexts : List ByteArray := [⟨#[101, 97, 116]⟩, ⟨#[116, 101, 115, 116, 115]⟩, ⟨#[97, 110]⟩, ⟨#[116, 101, 110]⟩, ⟨#[115, 69, 116]⟩, ⟨#[116, 114, 101, 101]⟩, ⟨#[97, 115]⟩, ⟨#[101, 115]⟩, ⟨#[110, 101, 115, 116, 115]⟩, ⟨#[97, 116]⟩, ⟨#[97, 114, 101, 110, 97]⟩, ⟨#[116, 97]⟩]
def lenV : Value → Nat
  | .slice _ n _ => n
  | _ => 0
theorem conv_new (W : World) (x : UInt8) : (convert 22 9 (.slice (some ⟨W.heap.size, 0, none⟩) 1 1)).run Tryz.prog (W.alloc (.cells #[.int .u8 (x.toNat : Int)] 5)) = .ok (.string (mkB [x])) (W.alloc (.cells #[.int .u8 (x.toNat : Int)] 5)) := by
  refine bytes_str rfl fun j hj => ?_
  obtain rfl : j = 0 := by simpa using hj
  rw [Go.Addr.add_lit, Nat.add_zero]
  exact cell_new0 W _ _ rfl
theorem full_46 {c : UInt8} (h : fullC c = true) : ((c.toNat : Int) == 46) = false := by
  unfold fullC at h
  rw [Bool.and_eq_true] at h
  rw [beq_eq_false_iff_ne]
  intro e
  have : c = 46 := u8_46 (by omega)
  rw [this] at h
  exact absurd h.2 (by decide)
set_option maxRecDepth 100000 in
set_option maxHeartbeats 4000000 in
theorem l12Some_any (P C : ByteArray) (n g : Nat) (N b k : Nat) (w : World) (hgd : (⟨n, P, C⟩ : Brd).Good n) (h9 : n ≤ 9) (hg : BAt w g 0 ⟨n, P, C⟩) (hgb : g ≠ b) (hs : SrcAt w N b k) (hk : k < 268435456) (hN : N ≤ w.heap.size) :
    Calls Tryz.prog 107 #[.pointer (some ⟨b, 0, none⟩), .pointer (some ⟨g, 0, none⟩)] w (PlayDrawn w N b (k + 20)) := by
  have hbN := hs.lt
  have h5 := hgd.lo
  have hlg := hg.lt
  obtain ⟨i0, hi0, hi1, hi2, hi3⟩ := info_parts infoByte
  have hb : Below w.heap.size w (w.alloc (.cells #[.int .i64 0, .int .i64 0, .bool false, .string ⟨#[]⟩] 30)) := (Below.refl _ _).alloc (Nat.le_refl _) _
  have HS := Lib.hid (hs.kept hb)
  have HG := Lib.hid (hg.kept hb)
  have G := Lib.hid (grown_of_below (row := some b) hb)
  have V4 := Lib.hid (VarAt.new w 30 [.int .i64 0, .int .i64 0, .bool false, .string ⟨#[]⟩])
  have HTR : Hid (∀ W, BAt W g 0 ⟨n, P, C⟩ → Calls Tryz.prog 186 #[.pointer (some ⟨g, 0, none⟩)] W fun e w' => e = .returned (.agg #[.int .i64 n, .string (Brd.turn ⟨n, P, C⟩).premium, .string (Brd.turn ⟨n, P, C⟩).cells]) ∧ Below W.heap.size W w') := Lib.hid (fun W h => l11Transpose_any ⟨n, P, C⟩ n g 0 W hgd h)
  have HTG : Hid ((⟨n, (Brd.turn ⟨n, P, C⟩).premium, (Brd.turn ⟨n, P, C⟩).cells⟩ : Brd).Good n) := Lib.hid hgd.turn
  have HGD := Lib.hid hgd
  have HSM : Hid (∀ (s : ByteArray) W, s.size ≤ 1048576 → Calls Tryz.prog 201 #[.string s] W fun e w' => e = .returned (.string (mkB (lowL s.data.toList))) ∧ Below W.heap.size W w') := Lib.hid (fun s W h => l03Small_any s W h)
  generalize (Brd.turn ⟨n, P, C⟩).premium = TP at *
  generalize (Brd.turn ⟨n, P, C⟩).cells = TC at *
  clear hs hb hg hgd
  go_enter Tryz.func107, Tryz.ntmps107
  go_upto_region 1 with fail
  have hz1 : w.heap.size < (w.alloc (.cells #[.int .i64 0, .int .i64 0, .bool false, .string ⟨#[]⟩] 30)).heap.size := by simp
  generalize w.alloc (.cells #[.int .i64 0, .int .i64 0, .bool false, .string ⟨#[]⟩] 30) = w1 at *
  go_wp2_with fail
  refine (one_any 2 N b _ _ HS.out (by omega)).mono ?_
  rintro e w2 ⟨dn, rfl, s2, g2⟩
  have hz2 : w.heap.size < w2.heap.size := by have := g2.size; omega
  replace HS := Lib.hid s2
  replace G := Lib.hid (grownBy_trans G.out g2)
  replace HG := Lib.hid (HG.out.grown g2 (by simp; omega))
  replace V4 := Lib.hid (V4.out.grown g2 (by simp; omega))
  clear s2 g2 hz1
  have hx : Below w2.heap.size w2 (w2.alloc (.cells #[.int .i64 0, .int .i64 0, .bool dn, .string ⟨#[]⟩] 30)) := (Below.refl _ _).alloc (Nat.le_refl _) _
  have V5 := Lib.hid (VarAt.new w2 30 [.int .i64 0, .int .i64 0, .bool dn, .string ⟨#[]⟩])
  have hz3 : w2.heap.size < (w2.alloc (.cells #[.int .i64 0, .int .i64 0, .bool dn, .string ⟨#[]⟩] 30)).heap.size := by simp
  replace HS := Lib.hid (HS.out.kept hx)
  replace G := Lib.hid (grown_below G.out hx)
  replace HG := Lib.hid (HG.out.kept hx)
  replace V4 := Lib.hid (V4.out.kept hx)
  clear hx
  go_upto_region 2 with fail
  generalize w2.alloc (.cells #[.int .i64 0, .int .i64 0, .bool dn, .string ⟨#[]⟩] 30) = w3 at *
  generalize w2.heap.size = B5 at *
  obtain ⟨q0, q1, q2⟩ := HG.out
  have hx : Below w3.heap.size w3 (w3.alloc (.cells #[.int .i64 n, .string P, .string C] 25)) := (Below.refl _ _).alloc (Nat.le_refl _) _
  have V6 := Lib.hid (VarAt.new w3 25 [.int .i64 n, .string P, .string C])
  replace HS := Lib.hid (HS.out.kept hx)
  replace G := Lib.hid (grown_below G.out hx)
  replace HG := Lib.hid (HG.out.kept hx)
  replace V4 := Lib.hid (V4.out.kept hx)
  replace V5 := Lib.hid (V5.out.kept hx)
  clear hx
  go_upto_region 3 with fail
  clear q0 q1 q2
  generalize w3.alloc (.cells #[.int .i64 n, .string P, .string C] 25) = w4 at *
  generalize w3.heap.size = B6 at *
  have d5 := V5.out.cell (i := 2) rfl
  go_upto_if 20 with fail
  go_cut [] (fun wx => ∃ FP FC : ByteArray, Hid ((⟨n, FP, FC⟩ : Brd).Good n) ∧ Hid (VarAt wx B6 25 [.int .i64 n, .string FP, .string FC]) ∧ w4.grownBy wx (some B6))
  case first =>
    cases dn with
    | false =>
      go_wp2_with fail
      go_meet
      exact ⟨P, C, HGD, V6, grown_of_below (Below.refl _ _)⟩
    | true =>
      go_wp2_with fail
      refine (HTR.out _ HG.out).mono ?_
      rintro e wT ⟨rfl, hd⟩
      have GT := grown_of_below (row := some B6) hd
      replace V6 := Lib.hid (V6.out.kept hd)
      clear hd
      have c0 := V6.out.cell (i := 0) rfl
      have c1 := V6.out.cell (i := 1) rfl
      have c2 := V6.out.cell (i := 2) rfl
      have f0 := V6.out.free 0
      have f1 := V6.out.free 1
      have f2 := V6.out.free 2
      obtain ⟨o0, k0⟩ := V6.out.set 0 (.int .i64 (n : Int))
      obtain ⟨o1, k1⟩ := o0.set 1 (.string TP)
      obtain ⟨o2, k2⟩ := o1.set 2 (.string TC)
      have GG := grownBy_trans GT (grownBy_trans (grownBy_trans k0 k1) k2)
      have H2 := Lib.hid o2
      have H3 := Lib.hid GG
      clear o0 o1 k0 k1 k2 GG o2 GT
      go_wp2_with fail
      go_meet
      exact ⟨TP, TC, HTG, H2, H3.out⟩
  case rest =>
    clear V6 HGD HTR HTG d5
    obtain ⟨FP, FC, HGF, V6, GG⟩ := hcut
    generalize wc = wF at *
    replace HS := Lib.hid (HS.out.grown GG (fun g e => by simp at e; omega))
    replace G := Lib.hid (grown_over G.out GG (by omega))
    replace HG := Lib.hid (HG.out.grown GG (by simp; omega))
    replace V4 := Lib.hid (V4.out.grown GG (by simp; omega))
    replace V5 := Lib.hid (V5.out.grown GG (by simp; omega))
    clear GG
    have HFULL : Hid (∀ r c W, BAt W B6 0 ⟨n, FP, FC⟩ → Calls Tryz.prog 200 #[.pointer (some ⟨B6, 0, none⟩), .int .i64 r, .int .i64 c] W fun e w' => e = .returned (.bool (fullC (Brd.cell ⟨n, FP, FC⟩ r c))) ∧ Below W.heap.size W w') := Lib.hid (fun r c W h => (l11Full_any ⟨n, FP, FC⟩ n r c B6 0 W HGF.out h).mono (by rintro e w' ⟨h1, h2⟩; exact ⟨h1, h2.below _⟩))
    have HAT : Hid (∀ r c W, Brd.inB ⟨n, FP, FC⟩ r c = true → BAt W B6 0 ⟨n, FP, FC⟩ → Calls Tryz.prog 192 #[.pointer (some ⟨B6, 0, none⟩), .int .i64 r, .int .i64 c] W fun e w' => e = .returned (.int .u8 ((Brd.cell ⟨n, FP, FC⟩ r c).toNat : Int)) ∧ Below W.heap.size W w') := Lib.hid (fun r c W hi h => (l11At_any ⟨n, FP, FC⟩ n r c B6 0 W HGF.out h hi).mono (by rintro e w' ⟨h1, h2⟩; exact ⟨h1, h2.below _⟩))
    have HNB : Hid (∀ r c : Int, ((0 ≤ r ∧ r < n) ∧ 0 ≤ c ∧ c < n) → Brd.inB ⟨n, FP, FC⟩ r c = true) := Lib.hid (fun r c h => HGF.out.inB.2 h)
    have HFIN : Hid (∀ r c, fullC (Brd.cell ⟨n, FP, FC⟩ r c) = true → (0 ≤ r ∧ r < n) ∧ 0 ≤ c ∧ c < n) := Lib.hid (fun r c h => HGF.out.inB.1 (HGF.out.full_in h))
    have q0 := HG.out.1
    go_wp2_with fail
    refine (pick_any n N b _ _ HS.out (by omega)).mono ?_
    rintro e w5 ⟨R1, ⟨r0, r1, _, _⟩, rfl, s5, g5⟩
    have r2 := r1 (by omega)
    replace HS := Lib.hid s5
    replace G := Lib.hid (grownBy_trans G.out g5)
    replace HG := Lib.hid (HG.out.grown g5 (by simp; omega))
    replace V4 := Lib.hid (V4.out.grown g5 (by simp; omega))
    replace V5 := Lib.hid (V5.out.grown g5 (by simp; omega))
    replace V6 := Lib.hid (V6.out.grown g5 (by simp; omega))
    clear g5 s5
    clear r1 q0
    go_wp2_with fail
    refine (one_any 2 N b _ _ HS.out (by omega)).mono ?_
    rintro e w6 ⟨y, rfl, s6, g6⟩
    replace HS := Lib.hid s6
    replace G := Lib.hid (grownBy_trans G.out g6)
    replace HG := Lib.hid (HG.out.grown g6 (by simp; omega))
    replace V4 := Lib.hid (V4.out.grown g6 (by simp; omega))
    replace V5 := Lib.hid (V5.out.grown g6 (by simp; omega))
    replace V6 := Lib.hid (V6.out.grown g6 (by simp; omega))
    clear g6 s6
    go_upto_if 30 with fail
    go_cut [7] (fun s7 wx => ∃ R2 : Int, s7 = .int .i64 R2 ∧ 0 ≤ R2 ∧ R2 < n ∧ w6 = wx)
    case first =>
      have q0 := HG.out.1
      have wq : IntKind.i64.wrap ((n : Int) / 2) = (n : Int) / 2 := IntWalk.i64_in _ (by omega)
      cases y with
      | false =>
        go_wp2_with fail
        go_meet
        exact ⟨R1, rfl, r0, r2, rfl⟩
      | true =>
        go_wp2_with fail
        go_meet
        exact ⟨(n : Int) / 2, rfl, by omega, by omega, rfl⟩
    case rest =>
      clear r0 r2
      obtain ⟨R, rfl, r0, r2, rfl⟩ := hcut
      have n0 := HG.out.1
      go_wp2_with fail
      refine (pick_any ((n : Int) - 1) N b _ _ HS.out (by omega)).mono ?_
      rintro e w8 ⟨x, ⟨x0, x1, _, _⟩, rfl, s8, g8⟩
      have x2 := x1 (by omega)
      obtain ⟨c, rfl⟩ : ∃ c : Nat, x = c := ⟨x.toNat, by omega⟩
      replace HS := Lib.hid s8
      replace G := Lib.hid (grownBy_trans G.out g8)
      replace HG := Lib.hid (HG.out.grown g8 (by simp; omega))
      replace V4 := Lib.hid (V4.out.grown g8 (by simp; omega))
      replace V5 := Lib.hid (V5.out.grown g8 (by simp; omega))
      replace V6 := Lib.hid (V6.out.grown g8 (by simp; omega))
      clear g8 s8
      clear x1 x0 n0
      go_upto_block 0 with fail
      go_cut [8] (fun cv wx => ∃ c : Nat, cv = .int .i64 c ∧ c + 1 < n ∧ Below w8.heap.size w8 wx)
      case first =>
        have hb := Below.refl w8.heap.size w8
        go_wp2_with fail
        go_loopw [8] (fun cv wr => ∃ c : Nat, cv = .int .i64 c ∧ c + 1 < n ∧ Below w8.heap.size w8 wr) (fun cv _ => (intOf cv).toNat)
        case atStart => exact ⟨c, rfl, by omega, hb⟩
        case round =>
          clear hb x2
          obtain ⟨c, rfl, hcn, hb⟩ := hrel
          have wc1 : IntKind.i64.wrap ((c : Int) - 1) = (c : Int) - 1 := IntWalk.i64_in _ (by omega)
          have HFC := Lib.hid (HFULL.out R ((c : Int) - 1) wr (bat_of (V6.out.kept hb)))
          have HIN := Lib.hid (fun h => (HFIN.out R ((c : Int) - 1) h).2.1)
          generalize fullC (Brd.cell ⟨n, FP, FC⟩ R ((c : Int) - 1)) = fl at *
          go_wp2_with fail
          refine HFC.out.mono ?_
          rintro e w9 ⟨rfl, hd⟩
          replace hb := hb.trans (hd.mono hb.size)
          clear hd
          clear HFC
          cases fl with
          | true =>
            have hc1 : 1 ≤ c := by have := HIN.out rfl; omega
            have hc2 : ((c - 1 : Nat) : Int) = (c : Int) - 1 := by omega
            clear HIN
            go_wp2
            go_roundw
            case rel => exact ⟨c - 1, by rw [hc2], by omega, hb⟩
            case measure => simp [intOf]; omega
          | false =>
            go_wp2_with fail
            go_meet
            exact ⟨c, rfl, hcn, hb⟩
      case rest =>
          clear x2
          obtain ⟨c, rfl, hcn, hb⟩ := hcut
          generalize wc = w9 at *
          replace HS := Lib.hid (HS.out.kept hb)
          replace G := Lib.hid (grown_below G.out hb)
          replace HG := Lib.hid (HG.out.kept hb)
          replace V4 := Lib.hid (V4.out.kept hb)
          replace V5 := Lib.hid (V5.out.kept hb)
          replace V6 := Lib.hid (V6.out.kept hb)
          clear hb
          have hx : Below w9.heap.size w9 (w9.alloc (.cells (drawTexts.flatMap Str.enc).toArray 9)) := (Below.refl _ _).alloc (Nat.le_refl _) _
          have HC := Lib.hid (cells_new (enc := Str.enc) (sz := 1) (fun _ => rfl) w9 drawTexts 9)
          have hlt9 := V6.out.lt
          replace HS := Lib.hid (HS.out.kept hx)
          replace G := Lib.hid (grown_below G.out hx)
          replace HG := Lib.hid (HG.out.kept hx)
          replace V4 := Lib.hid (V4.out.kept hx)
          replace V5 := Lib.hid (V5.out.kept hx)
          replace V6 := Lib.hid (V6.out.kept hx)
          clear hx
          go_wp2_with fail
          refine (text_any drawTexts w9.heap.size 12 N b _ _ HS.out (by omega) HC.out (by decide) (by decide) (by omega)).mono ?_
          rintro e wA ⟨word, hword, rfl, s7, g7⟩
          have hz9 := g7.size
          replace HS := Lib.hid s7
          replace G := Lib.hid (grownBy_trans G.out g7)
          replace HG := Lib.hid (HG.out.grown g7 (by simp; omega))
          replace V4 := Lib.hid (V4.out.grown g7 (by simp; omega))
          replace V5 := Lib.hid (V5.out.grown g7 (by simp; omega))
          replace V6 := Lib.hid (V6.out.grown g7 (by simp; omega))
          clear g7 s7
          obtain ⟨hw20, _⟩ := word_ok hword (by rfl)
          clear hword HC
          obtain ⟨cp, wB, hcp, hcv, hr, hd⟩ := bytes_of word wA
          have HW := Lib.hid hr
          have HWL : Hid (word.data.toList.length = word.size) := Lib.hid (by simp)
          have hltA := V6.out.lt
          clear hr
          go_upto_region 12 with fail
          replace HS := Lib.hid (HS.out.kept hd)
          replace G := Lib.hid (grown_below G.out hd)
          replace HG := Lib.hid (HG.out.kept hd)
          replace V4 := Lib.hid (V4.out.kept hd)
          replace V5 := Lib.hid (V5.out.kept hd)
          replace V6 := Lib.hid (V6.out.kept hd)
          clear hd
          clear hcv
          generalize word.data.toList = WL at *
          generalize word.size = wl at *
          generalize wA.heap.size = G9 at *
          have hb : Below wB.heap.size wB (wB.alloc (.cells #[] 5)) := (Below.refl _ _).alloc (Nat.le_refl _) _
          have HO : Hid ((wB.alloc (.cells #[] 5)).ownsRow wB.heap.size 5 1 (.slice (some ⟨wB.heap.size, 0, none⟩) 0 0) 0 []) := Lib.hid (World.ownsRow_made (base := wB.heap.size) (e := 5) (size := 1) wB #[] 0 (by simp) (by unfold maxLen; omega) rfl)
          go_upto_block 2 with fail
          go_cut [10] (fun ov wx => ∃ (m gO cap : Nat) (L : List UInt8), ov = .slice (some ⟨gO, 0, none⟩) m cap ∧ L.length = m ∧ c + m ≤ n ∧ Hid (wx.ownsRow wB.heap.size 5 1 (.slice (some ⟨gO, 0, none⟩) m cap) m (L.flatMap U8.enc)) ∧ Below wB.heap.size wB wx)
          case first =>
            go_wp2_with fail
            go_loopw [10, 11] (fun ov iv wr => ∃ (i m gO cap : Nat) (L : List UInt8), i ≤ wl ∧ iv = .int .i64 i ∧ ov = .slice (some ⟨gO, 0, none⟩) m cap ∧ L.length = m ∧ c + m ≤ n ∧ Hid (wr.ownsRow wB.heap.size 5 1 (.slice (some ⟨gO, 0, none⟩) m cap) m (L.flatMap U8.enc)) ∧ Below wB.heap.size wB wr) (fun ov _ _ => n - lenV ov)
            case atStart => exact ⟨0, 0, _, 0, [], Nat.zero_le _, rfl, rfl, rfl, by omega, HO, hb⟩
            case round =>
              clear HO hb
              obtain ⟨i, m, gO, cap, L, hi, rfl, rfl, hL, hcm, HO, hb⟩ := hrel
              have n0 := cell_kept HG.out.1 hb
              have wcm : IntKind.i64.wrap ((c : Int) + (m : Int)) = (c : Int) + (m : Int) := IntWalk.i64_in _ (by omega)
              have wi1 : IntKind.i64.wrap ((i : Int) + 1) = (i : Int) + 1 := IntWalk.i64_in _ (by omega)
              by_cases hlt : c + m < n
              · have hltI : (c : Int) + (m : Int) < (n : Int) := by omega
                have hin := HNB.out R ((c : Int) + (m : Int)) ⟨⟨r0, r2⟩, by omega, hltI⟩
                by_cases hil : i < wl
                · have hilI : (i : Int) < (wl : Int) := by omega
                  have hiL : i < WL.length := by rw [HWL.out]; exact hil
                  go_wp2_with fail
                  refine (HAT.out R ((c : Int) + (m : Int)) _ hin (bat_of (V6.out.kept hb))).mono ?_
                  rintro e wD ⟨rfl, hd⟩
                  replace hb := hb.trans (hd.mono hb.size)
                  replace HO := Lib.hid (own_below HO.out hd)
                  clear hd
                  clear n0
                  generalize Brd.cell _ R ((c : Int) + (m : Int)) = ch at *
                  cases h46 : ((ch.toNat : Int) == 46) with
                  | true =>
                    have wc := (HW.out.kept hb).cell (i := i) hiL
                    go_upto_region 21 with fail
                    have hx : Below wD.heap.size wD (wD.alloc (.cells #[.int .u8 ((WL[i]).toNat : Int)] 5)) := (Below.refl _ _).alloc (Nat.le_refl _) _
                    have KN := Lib.hid (new_byte wD (WL[i]) 5)
                    replace HO := Lib.hid (own_below HO.out hx)
                    have hzW := hb.size
                    replace hb := hb.trans (hx.mono hb.size)
                    clear hx
                    go_wp2_with (at_builtin; go_must (refine wpList_append_own _ rfl (.tmp 111) (.tmp 113) 22 rfl wB.heap.size 5 i0 _ 1 1 Tryz.underlying22 hi0 hi1 hi2 hi3 rfl (by decide) _ m (L.flatMap U8.enc) (by rfl) HO.out ⟨wD.heap.size, 0, none⟩ 1 1 (U8.enc (WL[i])) (by rfl) rfl KN.out (u8_one1 (WL[i])) ?c1 ?c2 ?c3 ?_))
                    case c1 => unfold maxLen; omega
                    case c2 => omega
                    case c3 => (first | omega | (simp only [World.size_alloc]; omega))
                    intro v' w7 hown hgr hnil
                    obtain ⟨g7, cap7, rfl, _⟩ := own_some hown (fun e => by have h := hnil; rw [e] at h; simp at h)
                    have hb7 := hb.grown hgr hb.size (fun q e => by have := (HO.out.lt q e).1; omega)
                    have HO7 : Hid (w7.ownsRow wB.heap.size 5 1 (.slice (some ⟨g7, 0, none⟩) (m + 1) cap7) (m + 1) ((L ++ [WL[i]]).flatMap U8.enc)) := Lib.hid (by rw [snoc_flat U8.enc]; exact hown)
                    clear hown hgr hnil KN HO hb
                    go_wp2
                    go_roundw
                    case rel => exact ⟨i + 1, m + 1, g7, cap7, L ++ [WL[i]], (by omega), by go_num, rfl, by rw [List.length_append, hL]; rfl, by omega, HO7, hb7⟩
                    case measure => simp [lenV]; omega
                  | false =>
                    have hi0I : (0 : Int) ≤ (i : Int) := by omega
                    have hi2I : (i : Int) + 1 ≤ (wl : Int) := by omega
                    have hi3I : (i : Int) + 1 ≤ (cp : Int) := by omega
                    have hi4I : (0 : Int) ≤ (i : Int) + 1 := by omega
                    have hcpn : ¬ cp = i := by omega
                    have hd : Below wD.heap.size wD wD.drew := (Below.refl _ _).drew
                    replace hb := hb.trans (hd.mono hb.size)
                    replace HO := Lib.hid (own_below HO.out hd)
                    clear hd
                    go_upto_region 19 with fail
                    refine wp_region_held_drew (S := fun W => RowB W G9 WL) (by kernel_rfl) (HW.out.kept hb) (fun hHeld => ?_)
                    generalize wD.drew = wE at *
                    refine slotA 0 91 (.int .i64 (i : Int)) ?_
                    simp only [S3]
                    refine slotA 1 92 (.slice (some ⟨G9, 0, none⟩) wl cp) ?_
                    simp only [S3]
                    refine slotA 2 93 (.int .i64 (wl : Int)) ?_
                    simp only [S3]
                    refine slotA 3 94 (.bool true) ?_
                    simp only [S3]
                    refine slotA 4 95 (.bool true) ?_
                    simp only [S3]
                    refine slotA 5 96 (.int .u8 (ch.toNat : Int)) ?_
                    simp only [S3]
                    refine slotA 9 100 (.slice (some ⟨G9, 0, none⟩) wl cp) ?_
                    simp only [S3]
                    refine slotA 10 101 (.int .i64 (i : Int)) ?_
                    simp only [S3]
                    refine slotA 11 102 (.int .i64 (i : Int)) ?_
                    simp only [S3]
                    refine slotA 12 103 (.int .i64 ((i : Int) + 1)) ?_
                    simp only [S3]
                    refine slotA 13 104 (.slice (some ⟨G9, i, none⟩) 1 (cp - i)) ?_
                    simp only [S3]
                    refine slotA 14 105 (.string (mkB [WL[i]])) ?_ (hy := Or.inl ⟨by rfl, fun w' hS => by have c9 := RowB.one hS hiL (cp - i); go_simp⟩)
                    simp only [S3]
                    refine wpAnyH_ready (rs := [6]) (by kernel_rfl) (by simp) ?_
                    refine AllReadyH.cons (o := _) rfl (fun K hK => ?_) AllReadyH.nil
                    have hx : Below wE.heap.size wE (wE.alloc (.cells #[.int .u8 (ch.toNat : Int)] 5)) := (Below.refl _ _).alloc (Nat.le_refl _) _
                    have hcn := conv_new wE ch
                    replace hb := hb.trans (hx.mono hb.size)
                    replace HO := Lib.hid (own_below HO.out hx)
                    clear hx
                    go_simp
                    refine hK.out _ _ (HW.out.kept hb) (fun hHeld2 => ?_)
                    clear hK K hHeld
                    refine wpAnyH_ready (rs := [7]) (by kernel_rfl) (by simp) ?_
                    refine AllReadyH.cons (o := _) rfl (fun K hK => ?_) AllReadyH.nil
                    go_simp
                    refine hK.out _ _ (HW.out.kept hb) (fun hHeld => ?_)
                    clear hK K hHeld2 hcn
                    refine wpAnyH_ready (rs := [8]) (by kernel_rfl) (by simp) ?_
                    refine AllReadyH.cons (o := _) rfl (fun K hK => ?_) AllReadyH.nil
                    go_simp
                    refine (HSM.out (mkB [ch]) _ (by rw [mkB_size]; show (1 : Nat) ≤ 1048576; decide)).mono ?_
                    rintro e wG ⟨rfl, hd⟩
                    replace hb := hb.trans (hd.mono hb.size)
                    replace HO := Lib.hid (own_below HO.out hd)
                    clear hd
                    go_wp2_with fail
                    refine hK.out _ _ (HW.out.kept hb) (fun hHeld2 => ?_)
                    clear hK K hHeld
                    refine wpAnyH_ready (rs := [15]) (by kernel_rfl) (by simp) ?_
                    refine AllReadyH.cons (o := _) rfl (fun K hK => ?_) AllReadyH.nil
                    go_simp
                    refine (HSM.out (mkB [WL[i]]) _ (by rw [mkB_size]; show (1 : Nat) ≤ 1048576; decide)).mono ?_
                    rintro e wH ⟨rfl, hd⟩
                    replace hb := hb.trans (hd.mono hb.size)
                    replace HO := Lib.hid (own_below HO.out hd)
                    clear hd
                    go_wp2_with fail
                    refine hK.out _ _ (HW.out.kept hb) (fun hHeld => ?_)
                    clear hK K hHeld2
                    generalize mkB (lowL (mkB [ch]).data.toList) = t1 at *
                    generalize mkB (lowL (mkB [WL[i]]).data.toList) = t2 at *
                    have hRow := HW.out.kept hb
                    by_cases hs : t1.toList = t2.toList
                    · refine slotA 16 107 (.bool true) ?_
                      simp only [S3]
                      refine slotA 17 108 (.bool true) ?_
                      simp only [S3]
                      refine wpAnyH_done (by kernel_rfl) ?_ _
                      clear hHeld hs hRow
                      have hx : Below wH.heap.size wH (wH.alloc (.cells #[.int .u8 ((ch).toNat : Int)] 5)) := (Below.refl _ _).alloc (Nat.le_refl _) _
                      have KN := Lib.hid (new_byte wH (ch) 5)
                      replace HO := Lib.hid (own_below HO.out hx)
                      have hzW := hb.size
                      replace hb := hb.trans (hx.mono hb.size)
                      clear hx
                      go_wp2_with (at_builtin; go_must (refine wpList_append_own _ rfl (.tmp 111) (.tmp 113) 22 rfl wB.heap.size 5 i0 _ 1 1 Tryz.underlying22 hi0 hi1 hi2 hi3 rfl (by decide) _ m (L.flatMap U8.enc) (by rfl) HO.out ⟨wH.heap.size, 0, none⟩ 1 1 (U8.enc (ch)) (by rfl) rfl KN.out (u8_one1 (ch)) ?c1 ?c2 ?c3 ?_))
                      case c1 => unfold maxLen; omega
                      case c2 => omega
                      case c3 => (first | omega | (simp only [World.size_alloc]; omega))
                      intro v' w7 hown hgr hnil
                      obtain ⟨g7, cap7, rfl, _⟩ := own_some hown (fun e => by have h := hnil; rw [e] at h; simp at h)
                      have hb7 := hb.grown hgr hb.size (fun q e => by have := (HO.out.lt q e).1; omega)
                      have HO7 : Hid (w7.ownsRow wB.heap.size 5 1 (.slice (some ⟨g7, 0, none⟩) (m + 1) cap7) (m + 1) ((L ++ [ch]).flatMap U8.enc)) := Lib.hid (by rw [snoc_flat U8.enc]; exact hown)
                      clear hown hgr hnil KN HO hb
                      go_wp2
                      go_roundw
                      case rel => exact ⟨i + 1, m + 1, g7, cap7, L ++ [ch], (by omega), by go_num, rfl, by rw [List.length_append, hL]; rfl, by omega, HO7, hb7⟩
                      case measure => simp [lenV]; omega
                    · refine slotA 16 107 (.bool false) ?_
                      simp only [S3]
                      refine slotA 17 108 (.bool false) ?_
                      simp only [S3]
                      refine wpAnyH_done (by kernel_rfl) ?_ _
                      clear hHeld hs hRow
                      have hx : Below wH.heap.size wH (wH.alloc (.cells #[.int .u8 ((ch).toNat : Int)] 5)) := (Below.refl _ _).alloc (Nat.le_refl _) _
                      have KN := Lib.hid (new_byte wH (ch) 5)
                      replace HO := Lib.hid (own_below HO.out hx)
                      have hzW := hb.size
                      replace hb := hb.trans (hx.mono hb.size)
                      clear hx
                      go_wp2_with (at_builtin; go_must (refine wpList_append_own _ rfl (.tmp 111) (.tmp 113) 22 rfl wB.heap.size 5 i0 _ 1 1 Tryz.underlying22 hi0 hi1 hi2 hi3 rfl (by decide) _ m (L.flatMap U8.enc) (by rfl) HO.out ⟨wH.heap.size, 0, none⟩ 1 1 (U8.enc (ch)) (by rfl) rfl KN.out (u8_one1 (ch)) ?c1 ?c2 ?c3 ?_))
                      case c1 => unfold maxLen; omega
                      case c2 => omega
                      case c3 => (first | omega | (simp only [World.size_alloc]; omega))
                      intro v' w7 hown hgr hnil
                      obtain ⟨g7, cap7, rfl, _⟩ := own_some hown (fun e => by have h := hnil; rw [e] at h; simp at h)
                      have hb7 := hb.grown hgr hb.size (fun q e => by have := (HO.out.lt q e).1; omega)
                      have HO7 : Hid (w7.ownsRow wB.heap.size 5 1 (.slice (some ⟨g7, 0, none⟩) (m + 1) cap7) (m + 1) ((L ++ [ch]).flatMap U8.enc)) := Lib.hid (by rw [snoc_flat U8.enc]; exact hown)
                      clear hown hgr hnil KN HO hb
                      go_wp2
                      go_roundw
                      case rel => exact ⟨i, m + 1, g7, cap7, L ++ [ch], (by omega), by go_num, rfl, by rw [List.length_append, hL]; rfl, by omega, HO7, hb7⟩
                      case measure => simp [lenV]; omega
                · have hilI : ¬ (i : Int) < (wl : Int) := by omega
                  have HFC := Lib.hid (HFULL.out R ((c : Int) + (m : Int)) wr (bat_of (V6.out.kept hb)))
                  go_wp2_with fail
                  refine HFC.out.mono ?_
                  rintro e wC ⟨rfl, hd⟩
                  replace hb := hb.trans (hd.mono hb.size)
                  replace HO := Lib.hid (own_below HO.out hd)
                  clear hd
                  clear HFC n0
                  cases hfl : fullC (Brd.cell _ R ((c : Int) + (m : Int))) with
                  | true =>
                    have h46 := full_46 hfl
                    clear hfl
                    go_wp2_with fail
                    refine (HAT.out R ((c : Int) + (m : Int)) _ hin (bat_of (V6.out.kept hb))).mono ?_
                    rintro e wD ⟨rfl, hd⟩
                    replace hb := hb.trans (hd.mono hb.size)
                    replace HO := Lib.hid (own_below HO.out hd)
                    clear hd
                    generalize Brd.cell _ R ((c : Int) + (m : Int)) = ch at *
                    have hd : Below wD.heap.size wD wD.drew := (Below.refl _ _).drew
                    replace hb := hb.trans (hd.mono hb.size)
                    replace HO := Lib.hid (own_below HO.out hd)
                    clear hd
                    go_upto_region 19 with fail
                    refine wp_region_held_drew (S := fun W => RowB W G9 WL) (by kernel_rfl) (HW.out.kept hb) (fun hHeld => ?_)
                    generalize wD.drew = wE at *
                    refine slotA 0 91 (.int .i64 (i : Int)) ?_
                    simp only [S3]
                    refine slotA 1 92 (.slice (some ⟨G9, 0, none⟩) wl cp) ?_
                    simp only [S3]
                    refine slotA 2 93 (.int .i64 (wl : Int)) ?_
                    simp only [S3]
                    have hRow := HW.out.kept hb
                    refine slotA 3 94 (.bool false) ?_
                    simp only [S3]
                    refine slotA 4 95 (.bool false) ?_
                    simp only [S3]
                    refine slotA 5 96 undef ?_ (hy := Or.inr ⟨by rfl, rfl⟩)
                    simp only [S3]
                    refine slotA 6 97 undef ?_ (hy := Or.inr ⟨by rfl, rfl⟩)
                    simp only [S3]
                    refine slotA 7 98 undef ?_ (hy := Or.inr ⟨by rfl, rfl⟩)
                    simp only [S3]
                    refine slotA 8 99 undef ?_ (hy := Or.inr ⟨by rfl, rfl⟩)
                    simp only [S3]
                    refine slotA 9 100 undef ?_ (hy := Or.inr ⟨by rfl, rfl⟩)
                    simp only [S3]
                    refine slotA 10 101 undef ?_ (hy := Or.inr ⟨by rfl, rfl⟩)
                    simp only [S3]
                    refine slotA 11 102 undef ?_ (hy := Or.inr ⟨by rfl, rfl⟩)
                    simp only [S3]
                    refine slotA 12 103 undef ?_ (hy := Or.inr ⟨by rfl, rfl⟩)
                    simp only [S3]
                    refine slotA 13 104 undef ?_ (hy := Or.inr ⟨by rfl, rfl⟩)
                    simp only [S3]
                    refine slotA 14 105 undef ?_ (hy := Or.inr ⟨by rfl, rfl⟩)
                    simp only [S3]
                    refine slotA 15 106 undef ?_ (hy := Or.inr ⟨by rfl, rfl⟩)
                    simp only [S3]
                    refine slotA 16 107 undef ?_ (hy := Or.inr ⟨by rfl, rfl⟩)
                    simp only [S3]
                    refine slotA 17 108 (.bool false) ?_
                    simp only [S3]
                    refine wpAnyH_done (by kernel_rfl) ?_ _
                    clear hHeld hRow
                    have hx : Below wE.heap.size wE (wE.alloc (.cells #[.int .u8 ((ch).toNat : Int)] 5)) := (Below.refl _ _).alloc (Nat.le_refl _) _
                    have KN := Lib.hid (new_byte wE (ch) 5)
                    replace HO := Lib.hid (own_below HO.out hx)
                    have hzW := hb.size
                    replace hb := hb.trans (hx.mono hb.size)
                    clear hx
                    go_wp2_with (at_builtin; go_must (refine wpList_append_own _ rfl (.tmp 111) (.tmp 113) 22 rfl wB.heap.size 5 i0 _ 1 1 Tryz.underlying22 hi0 hi1 hi2 hi3 rfl (by decide) _ m (L.flatMap U8.enc) (by rfl) HO.out ⟨wE.heap.size, 0, none⟩ 1 1 (U8.enc (ch)) (by rfl) rfl KN.out (u8_one1 (ch)) ?c1 ?c2 ?c3 ?_))
                    case c1 => unfold maxLen; omega
                    case c2 => omega
                    case c3 => (first | omega | (simp only [World.size_alloc]; omega))
                    intro v' w7 hown hgr hnil
                    obtain ⟨g7, cap7, rfl, _⟩ := own_some hown (fun e => by have h := hnil; rw [e] at h; simp at h)
                    have hb7 := hb.grown hgr hb.size (fun q e => by have := (HO.out.lt q e).1; omega)
                    have HO7 : Hid (w7.ownsRow wB.heap.size 5 1 (.slice (some ⟨g7, 0, none⟩) (m + 1) cap7) (m + 1) ((L ++ [ch]).flatMap U8.enc)) := Lib.hid (by rw [snoc_flat U8.enc]; exact hown)
                    clear hown hgr hnil KN HO hb
                    go_wp2
                    go_roundw
                    case rel => exact ⟨i, m + 1, g7, cap7, L ++ [ch], (by omega), by go_num, rfl, by rw [List.length_append, hL]; rfl, by omega, HO7, hb7⟩
                    case measure => simp [lenV]; omega
                  | false =>
                    clear hfl hin
                    go_wp2_with fail
                    go_meet
                    exact ⟨m, gO, cap, L, rfl, hL, hcm, HO, hb⟩
              · have hltI : ¬ (c : Int) + (m : Int) < (n : Int) := by omega
                go_wp2_with fail
                go_meet
                exact ⟨m, gO, cap, L, rfl, hL, hcm, HO, hb⟩
          case rest =>
            clear HO hb
            obtain ⟨m, gO, cap, L, rfl, hL, hcm, HO, hb⟩ := hcut
            generalize wc = wD at *
            have hcv := own_bytes HO.out hL.symm
            have hws : (mkB L).size ≤ 20 := by rw [mkB_size]; omega
            generalize mkB L = ws at *
            replace HS := Lib.hid (HS.out.kept hb)
            replace G := Lib.hid (grown_below G.out hb)
            replace HG := Lib.hid (HG.out.kept hb)
            replace V4 := Lib.hid (V4.out.kept hb)
            replace V5 := Lib.hid (V5.out.kept hb)
            clear hb HO
            have y0 := V5.out.cell (i := 3) rfl
            have g0 := V5.out.free 3
            obtain ⟨o9, k9⟩ := V5.out.set 3 (.string ws)
            replace HS := Lib.hid (HS.out.grown k9 (fun g e => by simp at e; omega))
            replace G := Lib.hid (grown_over G.out k9 (by omega))
            replace V4 := Lib.hid (V4.out.grown k9 (by simp; omega))
            replace V5 := Lib.hid o9
            clear o9 k9
            go_upto_region 23 with fail
            clear hcv
            clear y0 g0
            generalize World.setCell _ ⟨B5, 3, none⟩ _ = wq1 at *
            have y0 := V5.out.cell (i := 0) rfl
            have g0 := V5.out.free 0
            obtain ⟨o9, k9⟩ := V5.out.set 0 (.int .i64 R)
            replace HS := Lib.hid (HS.out.grown k9 (fun g e => by simp at e; omega))
            replace G := Lib.hid (grown_over G.out k9 (by omega))
            replace V4 := Lib.hid (V4.out.grown k9 (by simp; omega))
            replace V5 := Lib.hid o9
            clear o9 k9
            go_upto_region 24 with fail
            clear y0 g0
            generalize World.setCell _ ⟨B5, 0, none⟩ _ = wq2 at *
            have y0 := V5.out.cell (i := 1) rfl
            have g0 := V5.out.free 1
            obtain ⟨o9, k9⟩ := V5.out.set 1 (.int .i64 (c : Int))
            replace HS := Lib.hid (HS.out.grown k9 (fun g e => by simp at e; omega))
            replace G := Lib.hid (grown_over G.out k9 (by omega))
            replace V4 := Lib.hid (V4.out.grown k9 (by simp; omega))
            replace V5 := Lib.hid o9
            clear o9 k9
            go_upto_region 25 with fail
            clear y0 g0
            generalize World.setCell _ ⟨B5, 1, none⟩ _ = wq3 at *
            have d2 := V5.out.cell (i := 2) rfl
            go_upto_if 123 with fail
            go_cut [] (fun wx => ∃ A B : Int, Hid (VarAt wx B5 30 [.int .i64 A, .int .i64 B, .bool dn, .string ws]) ∧ Hid (wq3.grownBy wx (some B5)))
            case first =>
              cases dn with
              | false =>
                go_wp2_with fail
                go_meet
                exact ⟨R, (c : Int), V5, Lib.hid (grown_of_below (Below.refl _ _))⟩
              | true =>
                go_upto_region 26 with fail
                clear d2
                have y0 := V5.out.cell (i := 0) rfl
                have g0 := V5.out.free 0
                obtain ⟨o9, k9⟩ := V5.out.set 0 (.int .i64 (c : Int))
                have y1 := o9.cell (i := 1) rfl
                have g1 := o9.free 1
                obtain ⟨o8, k8⟩ := o9.set 1 (.int .i64 R)
                have H9 := Lib.hid o8
                have H8 := Lib.hid (grownBy_trans k9 k8)
                clear o9 o8 k9 k8 V5
                go_wp2_with fail
                go_meet
                exact ⟨(c : Int), R, H9, H8⟩
            case rest =>
              clear V5 d2
              obtain ⟨A, B, V5, GG⟩ := hcut
              generalize wc = wq4 at *
              replace HS := Lib.hid (HS.out.grown GG.out (fun g e => by simp at e; omega))
              replace G := Lib.hid (grown_over G.out GG.out (by omega))
              replace V4 := Lib.hid (V4.out.grown GG.out (by simp; omega))
              clear GG
              have rO := V5.out.range
              have tR := V4.out.there (n := 4) rfl
              obtain ⟨oV, kV⟩ := V4.out.put [.int .i64 A, .int .i64 B, .bool dn, .string ws] rfl
              replace HS := Lib.hid (HS.out.grown kV (fun g e => by simp at e; omega))
              replace G := Lib.hid (grown_over G.out kV (Nat.le_refl _))
              have rZ := oV.range
              clear kV oV
              go_upto_region 28 with fail
              refine wp_region_list ?_
              refine wpList_load_mid rfl 30 _ rfl B5 0 rfl [.int .i64 A, .int .i64 B, .bool dn, .string ws] _ rO Tryz.underlying30 rfl (by kernel_rfl) ?_
              refine wpList_store_mid rfl 30 _ _ rfl w.heap.size 0 #[.int .i64 A, .int .i64 B, .bool dn, .string ws] rfl rfl tR (by kernel_rfl) (by simp [Value.oneCell']) ?_
              clear rO tR
              change wpList _ _ _ _ _ (wq4.setCells w.heap.size 0 [.int .i64 A, .int .i64 B, .bool dn, .string ws])
              generalize wq4.setCells w.heap.size 0 [.int .i64 A, .int .i64 B, .bool dn, .string ws] = wZ at *
              have hV : (loadVar 30 ⟨w.heap.size, 0, none⟩).run Tryz.prog wZ = .ok (.agg #[.int .i64 A, .int .i64 B, .bool dn, .string ws]) wZ := run_loadVar_mid wZ _ 0 30 [.int .i64 A, .int .i64 B, .bool dn, .string ws] _ rZ Tryz.underlying30 rfl (by kernel_rfl)
              have HV := Lib.hid hV
              clear rZ hV V4 V5
              go_step
              go_step
              go_step
              go_step
              refine bodyPost_ret (results_cell_var Tryz.results107 _ _ _ _ rfl HV.out) rfl ?_
              exact ⟨⟨A, B, dn, ws⟩, hws, rfl, HS.out.mono (Nat.le_refl _) (by omega), G.out⟩
end Go.Proofs.YtjdcdhhbgijaoaaGreatDoor
