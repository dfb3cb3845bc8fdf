/- Contracts: the program's best play of a list. Go's tables of unicode and unicode/utf8 hold what is laid (CEnv); texts fit. -/
import Derived.Test.YtofcampipllegaaGreatDoorBpF
namespace Go.Proofs.YtofcampipllegaaGreatDoor
open Go.ChangeShapes Go.WideShapes Go.ChangeAt Go.RowKit Go.Sort

set_option maxRecDepth 100000 in
set_option maxHeartbeats 4000000 in
theorem scorables_any (x : Tls) (q : TlA) (b : Brd) (ps : List Ply) (a : Option Addr) (cap : Nat) (w : World) (ha : x.At q w) (hft : x.fit) (hxs : x.letters.size ≤ 1048576) (hf : b.fit) (hs : ∀ p ∈ ps, p.word.size ≤ 1048576) (hl : ps.length ≤ 9223372036854775807) (hE : CEnv w) (hp : SliceAt w 4 Ply.enc a ps) :
    Calls Tryz.prog 62 #[.agg #[.string x.letters, .slice q.values.a x.values.length q.values.c, .slice q.counts.a x.counts.length q.counts.c, .int .i64 x.blanks], .agg #[.int .i64 b.size, .string b.premium, .string b.cells], .slice a ps.length cap] w fun e w' => e = .returned (.bool (x.ok && (b.ok && allPlays b ps))) ∧ Below w.heap.size w w' := by
  obtain ⟨w2, hw2⟩ : ∃ w2, w2 = (w.alloc (.cells #[.string x.letters, .slice q.values.a x.values.length q.values.c, .slice q.counts.a x.counts.length q.counts.c, .int .i64 x.blanks] 33)).alloc (.cells #[.int .i64 b.size, .string b.premium, .string b.cells] 35) := ⟨_, rfl⟩
  have hb : Below w.heap.size w w2 := by rw [hw2]; exact ((Below.refl _ _).alloc (Nat.le_refl _) _).alloc (by simp) _
  have HT : Hid (TAt w2 w.heap.size x q) := by
    rw [hw2]
    exact Lib.hid ((TAt.new w x q 33 ha).kept ((Below.refl _ _).alloc (Nat.le_refl _) _))
  have HG : Hid (BAt w2 (w.heap.size + 1) 0 b) := by
    rw [hw2]
    have := BAt.new (w.alloc (.cells #[.string x.letters, .slice q.values.a x.values.length q.values.c, .slice q.counts.a x.counts.length q.counts.c, .int .i64 x.blanks] 33)) b 35
    simp only [World.size_alloc] at this
    exact Lib.hid this
  have HE := Lib.hid (hE.kept hb)
  have HP := Lib.hid (hp.kept hb)
  have HW2 := Lib.hid hw2
  have HVT : Hid (∀ W, x.At q W → Calls Tryz.prog 121 #[.agg #[.string x.letters, .slice q.values.a x.values.length q.values.c, .slice q.counts.a x.counts.length q.counts.c, .int .i64 x.blanks]] W fun e w' => e = .returned (.bool x.ok) ∧ Below W.heap.size W w') := Lib.hid (fun W h => ValidTiles_any x q W h hft hxs)
  clear hw2 ha hE hp
  cases hx : x.ok with
  | false =>
    rw [hx] at HVT
    go_enter Tryz.func62, Tryz.ntmps62
    go_upto_region 1 with fail
    rw [← HW2.out]
    clear HW2 hx
    obtain ⟨c0, c1, c2, c3⟩ := HT.out.1
    go_wp2_with fail
    refine (HVT.out _ HT.out.2).mono ?_
    rintro e w3 ⟨rfl, hd⟩
    have hb2 := hb.trans (hd.mono hb.size)
    clear hd c0 c1 c2 c3
    go_wp2
    go_ret
    exact ⟨rfl, hb2⟩
  | true =>
    rw [hx] at HVT
    cases hbo : b.ok with
    | false =>
      go_enter Tryz.func62, Tryz.ntmps62
      go_upto_region 1 with fail
      rw [← HW2.out]
      clear HW2 hx
      obtain ⟨c0, c1, c2, c3⟩ := HT.out.1
      go_wp2_with fail
      refine (HVT.out _ HT.out.2).mono ?_
      rintro e w3 ⟨rfl, hd⟩
      clear c0 c1 c2 c3
      replace hb := hb.trans (hd.mono hb.size)
      replace HG := Lib.hid (HG.out.kept hd)
      clear hd
      obtain ⟨b0, b1, b2⟩ := HG.out
      go_wp2_with fail
      refine (ValidBoard_any b _ hf).mono ?_
      rintro e w4 ⟨rfl, hd⟩
      rw [hbo]
      have hb2 := hb.trans (hd.mono hb.size)
      clear hd b0 b1 b2 hbo
      go_wp2
      go_ret
      exact ⟨rfl, hb2⟩
    | true =>
      obtain ⟨n, hgd⟩ := Brd.good hbo
      have HGD := Lib.hid hgd
      clear hgd
      go_enter Tryz.func62, Tryz.ntmps62
      go_upto_region 1 with fail
      rw [← HW2.out]
      clear HW2 hx
      obtain ⟨c0, c1, c2, c3⟩ := HT.out.1
      go_wp2_with fail
      refine (HVT.out _ HT.out.2).mono ?_
      rintro e w3 ⟨rfl, hd⟩
      clear c0 c1 c2 c3
      replace hb := hb.trans (hd.mono hb.size)
      replace HG := Lib.hid (HG.out.kept hd)
      replace HE := Lib.hid (HE.out.kept hd)
      replace HP := Lib.hid (HP.out.kept hd)
      clear hd
      obtain ⟨b0, b1, b2⟩ := HG.out
      go_wp2_with fail
      refine (ValidBoard_any b _ hf).mono ?_
      rintro e w4 ⟨rfl, hd⟩
      rw [hbo]
      clear b0 b1 b2 hbo
      replace hb := hb.trans (hd.mono hb.size)
      replace HG := Lib.hid (HG.out.kept hd)
      replace HE := Lib.hid (HE.out.kept hd)
      replace HP := Lib.hid (HP.out.kept hd)
      clear hd
      go_wp2_with fail
      refine (containsFns_any b ps n _ a cap _ HGD.out hs hl HE.out HG.out HP.out).mono ?_
      rintro e w5 ⟨rfl, hd⟩
      have hb2 := hb.trans (hd.mono hb.size)
      clear hd
      go_wp2
      go_ret
      exact ⟨ret_bool (by simp), hb2⟩
end Go.Proofs.YtofcampipllegaaGreatDoor
