/- The statement FnExactFinalChange: the changes of the scores at the end. Go's tables of unicode and unicode/utf8 hold what is laid (CEnv), internal/bytealg's MaxLen a number (EnvL). -/
import Derived.Test.YtofcampipllegaaGreatDoorGfC
import Derived.Test.YtofcampipllegaaGreatDoorGmW
import Derived.Test.YtofcampipllegaaGreatDoorCEnv
namespace Go.Proofs.YtofcampipllegaaGreatDoor
open Go.ChangeShapes Go.WideShapes Go.ChangeAt Go.RowKit Go.Sort

theorem size_lgame (x : Gam) (p : GaA) : (Tryz.prog.info? 52).map (·.size) = some (gcells x p).length := by kernel_rfl
theorem gcells_one (x : Gam) (p : GaA) : ∀ v ∈ gcells x p, v.oneCell' = true := by
 intro v hv
 simp only [gcells, List.mem_cons, List.not_mem_nil, or_false] at hv
 rcases hv with rfl | rfl | rfl | rfl | rfl | rfl | rfl | rfl | rfl | rfl | rfl | rfl | rfl | rfl | rfl | rfl | rfl | rfl | rfl | rfl | rfl | rfl | rfl | rfl | rfl | rfl | rfl | rfl | rfl | rfl <;> rfl
/-- the cells of a game that nobody has filled -/
def gzero : List Value := szero ++ [.int .i64 0, .string ⟨#[]⟩, .string ⟨#[]⟩, .string ⟨#[]⟩, .slice none 0 0, .slice none 0 0, .slice none 0 0, .int .i64 0, .int .i64 0, .int .i64 0, .int .i64 0, .int .i64 0, .int .i64 0, .bool false, .string ⟨#[]⟩, .string ⟨#[]⟩, .string ⟨#[]⟩, .int .i64 0, .int .i64 0, .bool false]
set_option maxRecDepth 100000 in
set_option maxHeartbeats 16000000 in
theorem lawFinalChange_any (x : Gam) (p : GaA) (w : World) (ha : x.At p w) (hf : x.fit) (hE : CEnv w) (hEL : EnvL w) :
  Calls Tryz.prog 5 #[.agg (gcells x p).toArray] w fun e w' => e = .returned (.bool true) ∧ Below w.heap.size w w' := by
 have hb : Below w.heap.size w (w.alloc (.cells (gcells x p).toArray 52)) := (Below.refl _ _).alloc (Nat.le_refl _) _
 have VL := Lib.hid (VarAt.new w 52 (gcells x p))
 have HA : Hid (x.At p (w.alloc (.cells (gcells x p).toArray 52))) := Lib.hid (Gam.At.kept ha hb)
 have HE := Lib.hid (hE.kept hb)
 have HEL := Lib.hid (hEL.kept hb)
 have HSL : Hid (∀ q, (Tryz.prog.info? 52).map (·.size) = some (gcells x q).length) := Lib.hid (size_lgame x)
 have HSZ : Hid (∀ q, (Tryz.prog.info? 65).map (·.size) = some (gcells x q).length) := Lib.hid (size_game x)
 have HGL : Hid (∀ q, (gcells x q).length = 30) := Lib.hid (fun _ => rfl)
 have HG1 : Hid (∀ q, ∀ v ∈ gcells x q, v.oneCell' = true) := Lib.hid (gcells_one x)
 have HSG : Hid (∀ W, x.At p W → Calls Tryz.prog 22 #[.agg (gcells x p).toArray, .int .i64 1048576] W (SzPost W 1048576 x.sz)) := Lib.hid (fun W h => szGame_any x p 1048576 W h (by omega) (by omega) hf)
 have HTA : Hid (x.small → ∀ W, x.At p W → Calls Tryz.prog 24 #[.agg (gcells x p).toArray] W fun e w' => ∃ q : GaA, e = .returned (.agg (gcells x q).toArray) ∧ x.At q w' ∧ Below W.heap.size W w') := Lib.hid (fun hs W h => (toGame_any x p W h hs).mono (by
  rintro e w' ⟨q, h1, h2, h3⟩
  exact ⟨q, h1, h2.at, h3⟩))
 have HTO : Hid (x.small → ∀ W, x.At p W → Calls Tryz.prog 24 #[.agg (gcells x p).toArray] W fun e w' => ∃ q : GaA, e = .returned (.agg (gcells x q).toArray) ∧ x.Z q W.heap.size w' ∧ x.Off q ∧ Below W.heap.size W w') := Lib.hid (fun hs W h => (toGameA_any x p W h hs).mono (by
  rintro e w' ⟨q, h1, h2, h4, h3⟩
  exact ⟨q, h1, .of h2, .of h4, h3⟩))
 have HEQ : Hid (∀ q r W, x.At q W → x.At r W → Calls Tryz.prog 27 #[.agg (gcells x q).toArray, .agg (gcells x r).toArray] W fun e w' => e = .returned (.bool true) ∧ Below W.heap.size W w') := Lib.hid (fun q r W h h2 => eqGame_any x q r W h h2 hf)
 have HMK : Hid (x.small → ∀ q base W, x.Z q base W → x.Off q → base ≤ W.heap.size → Calls Tryz.prog 31 #[.agg (gcells x q).toArray, .int .i64 1] W fun e w' => e = .returned (.int .i64 (1 + (x.cnt : Nat))) ∧ Wrote base (x.effs q) W w') := Lib.hid (fun hs q base W h h2 h3 => (markGameZ_any x q base W h h2 h3 hs).mono (by
  rintro e w' ⟨h1, _, h4⟩
  exact ⟨h1, h4⟩))
 obtain ⟨rv, hrv⟩ : ∃ r, r = x.final.1 := ⟨_, rfl⟩
 obtain ⟨kc, hkc⟩ : ∃ c, c = x.final.2 := ⟨_, rfl⟩
 have HSM : Hid (x.small → rv.length ≤ 1048576) := Lib.hid (by rw [hrv]; exact fun hsm => x.final_small)
 have HSP : Hid (x.small → ∀ q W, x.At q W → Calls Tryz.prog 28 #[.agg (gcells x q).toArray] W fun e w' => ∃ q : Rwa, e = .returned (.tuple #[.slice q.a rv.length q.c, .int .i64 kc]) ∧ SliceAt w' 1 I64.enc q.a rv ∧ Below W.heap.size W w') := Lib.hid (by rw [hrv, hkc]; exact fun hsm q W h => specFinalChange_any x q W h hf hsm)
 have HIM : Hid (x.small → x.setup.tiles.letters.size ≤ 1048576 → x.last.play.word.size ≤ 1048576 → ∀ q W, x.At q W → CEnv W → EnvL W → Calls Tryz.prog 29 #[.agg (gcells x q).toArray] W fun e w' => ∃ q : Rwa, e = .returned (.tuple #[.slice q.a rv.length q.c, .int .i64 kc]) ∧ IZ w' W.heap.size q.a q.c rv ∧ True ∧ Below W.heap.size W w') := Lib.hid (by rw [hrv, hkc]; exact fun hsm h1 h2 q W h h3 h4 => implFinalChange_any x q W h hf hsm h1 h2 h3 h4)
 clear hrv hkc
 have HRQ : Hid (x.small → ∀ (q r : Rwa) W, SliceAt W 1 I64.enc q.a rv → SliceAt W 1 I64.enc r.a rv → Calls Tryz.prog 30 #[.slice q.a rv.length q.c, .slice r.a rv.length r.c] W fun e w' => e = .returned (.bool true) ∧ Below W.heap.size W w') := Lib.hid (fun hsm q r W h h2 => by
  have hlen := HSM.out hsm
  exact eqInt64S_any rv _ _ q.c r.c W h h2 (by have := hlen; omega))
 have HRM : Hid (x.small → ∀ (q : Rwa) (base : Nat) W, IZ W base q.a q.c rv → True → base ≤ W.heap.size → Calls Tryz.prog 32 #[.slice q.a rv.length q.c, .int .i64 1] W fun e w' => e = .returned (.int .i64 (1 + (rv.length : Nat))) ∧ IZ w' base q.a q.c (I64.marks 1 rv.length) ∧ Wrote base ([effA q.a rv]) W w') := Lib.hid (fun hsm q base W h h2 h3 => by
  have hlen := HSM.out hsm
  exact markIZ_any rv q.a q.c base 1 W h h3 hlen (by omega) (by omega))
 have HRH : Hid (x.small → ∀ (q : Rwa) W, SliceAt W 1 I64.enc q.a (I64.marks 1 rv.length) → Calls Tryz.prog 33 #[.slice q.a rv.length q.c, .int .i64 1] W fun e w' => e = .returned (.int .i64 (1 + (rv.length : Nat))) ∧ Below W.heap.size W w') := Lib.hid (fun hsm q W h => by
  have hlen := HSM.out hsm
  exact heldInt64S_any rv.length q.a q.c 1 W h (by have := hlen; omega) (by omega) (by have := hlen; omega))
 have LZK : Hid (∀ (q : Rwa) (base : Nat) W W', IZ W base q.a q.c rv → Below W.heap.size W W' → IZ W' base q.a q.c rv) := Lib.hid (fun _ _ _ _ h hb => h.kept hb)
 have LZA : Hid (∀ (q : Rwa) (base : Nat) W, IZ W base q.a q.c rv → SliceAt W 1 I64.enc q.a rv) := Lib.hid (fun _ _ _ h => h.at)
 have LMA : Hid (∀ (q : Rwa) (base : Nat) W, IZ W base q.a q.c (I64.marks 1 rv.length) → SliceAt W 1 I64.enc q.a (I64.marks 1 rv.length)) := Lib.hid (fun _ _ _ h => h.at)
 have LAK : Hid (∀ (q : Rwa) W W', SliceAt W 1 I64.enc q.a rv → Below W.heap.size W W' → SliceAt W' 1 I64.enc q.a rv) := Lib.hid (fun _ _ _ h hb => h.kept hb)
 have LMK : Hid (∀ (q : Rwa) (base : Nat) W W', IZ W base q.a q.c (I64.marks 1 rv.length) → Below W.heap.size W W' → IZ W' base q.a q.c (I64.marks 1 rv.length)) := Lib.hid (fun _ _ _ _ h hb => h.kept hb)
 have LZW : Hid (∀ (q : Rwa) (base lo : Nat) S W W', IZ W base q.a q.c rv → Wrote lo S W W' → (∀ s ∈ S, ∀ t ∈ [effA q.a rv], offA s t) → IZ W' base q.a q.c rv) := Lib.hid (fun _ _ _ _ _ _ h hw ho => h.wrote hw (fun s hs => ho s hs _ (List.mem_singleton.2 rfl)))
 have LZL : Hid (∀ (q : Rwa) (base : Nat) W, IZ W base q.a q.c rv → ∀ t ∈ [effA q.a rv], ∀ g, t.map (·.block) = some g → base ≤ g ∧ g < W.heap.size) := Lib.hid (fun _ _ _ h => (fun t ht => by rw [List.mem_singleton.1 ht]; exact h.lt))
 clear HSM ha hE hEL hf
 have hcq : ∃ c : Nat, c = rv.length := ⟨_, rfl⟩
 obtain ⟨n, hn⟩ := hcq
 rw [← hn] at HSP HIM HRQ HRM HRH
 obtain ⟨PAt, hPAt⟩ : ∃ f : Rwa → World → Prop, f = fun q W => SliceAt W 1 I64.enc q.a rv := ⟨_, rfl⟩
 obtain ⟨PZ, hPZ⟩ : ∃ f : Rwa → Nat → World → Prop, f = fun q base W => IZ W base q.a q.c rv := ⟨_, rfl⟩
 obtain ⟨PO, hPO⟩ : ∃ f : Rwa → Prop, f = fun q => True := ⟨_, rfl⟩
 obtain ⟨PM, hPM⟩ : ∃ f : Rwa → Nat → World → Prop, f = fun q base W => IZ W base q.a q.c (I64.marks 1 rv.length) := ⟨_, rfl⟩
 obtain ⟨PE, hPE⟩ : ∃ f : Rwa → List (Option Addr), f = fun q => [effA q.a rv] := ⟨_, rfl⟩
 obtain ⟨PK, hPK⟩ : ∃ f : Rwa → World → Prop, f = fun q W => SliceAt W 1 I64.enc q.a (I64.marks 1 rv.length) := ⟨_, rfl⟩
 rw [← hn] at hPM hPK LMA LMK
 replace HSP : Hid (x.small → ∀ q W, x.At q W → Calls Tryz.prog 28 #[.agg (gcells x q).toArray] W fun e w' => ∃ q : Rwa, e = .returned (.tuple #[.slice q.a n q.c, .int .i64 kc]) ∧ PAt q w' ∧ Below W.heap.size W w') := by rw [hPAt]; exact HSP
 replace HIM : Hid (x.small → x.setup.tiles.letters.size ≤ 1048576 → x.last.play.word.size ≤ 1048576 → ∀ q W, x.At q W → CEnv W → EnvL W → Calls Tryz.prog 29 #[.agg (gcells x q).toArray] W fun e w' => ∃ q : Rwa, e = .returned (.tuple #[.slice q.a n q.c, .int .i64 kc]) ∧ PZ q W.heap.size w' ∧ PO q ∧ Below W.heap.size W w') := by rw [hPZ, hPO]; exact HIM
 replace HRQ : Hid (x.small → ∀ q r W, PAt q W → PAt r W → Calls Tryz.prog 30 #[.slice q.a n q.c, .slice r.a n r.c] W fun e w' => e = .returned (.bool true) ∧ Below W.heap.size W w') := by rw [hPAt]; exact HRQ
 replace HRM : Hid (x.small → ∀ q base W, PZ q base W → PO q → base ≤ W.heap.size → Calls Tryz.prog 32 #[.slice q.a n q.c, .int .i64 1] W fun e w' => e = .returned (.int .i64 (1 + (n : Nat))) ∧ PM q base w' ∧ Wrote base (PE q) W w') := by rw [hPZ, hPO, hPM, hPE]; exact HRM
 replace HRH : Hid (x.small → ∀ q W, PK q W → Calls Tryz.prog 33 #[.slice q.a n q.c, .int .i64 1] W fun e w' => e = .returned (.int .i64 (1 + (n : Nat))) ∧ Below W.heap.size W w') := by rw [hPK]; exact HRH
 replace LZK : Hid (∀ q base W W', PZ q base W → Below W.heap.size W W' → PZ q base W') := by rw [hPZ]; exact LZK
 replace LZA : Hid (∀ q base W, PZ q base W → PAt q W) := by rw [hPZ, hPAt]; exact LZA
 replace LMA : Hid (∀ q base W, PM q base W → PK q W) := by rw [hPM, hPK]; exact LMA
 replace LAK : Hid (∀ q W W', PAt q W → Below W.heap.size W W' → PAt q W') := by rw [hPAt]; exact LAK
 replace LMK : Hid (∀ q base W W', PM q base W → Below W.heap.size W W' → PM q base W') := by rw [hPM]; exact LMK
 replace LZW : Hid (∀ q base lo S W W', PZ q base W → Wrote lo S W W' → (∀ s ∈ S, ∀ t ∈ PE q, offA s t) → PZ q base W') := by rw [hPZ, hPE]; exact LZW
 replace LZL : Hid (∀ q base W, PZ q base W → ∀ t ∈ PE q, ∀ g, t.map (·.block) = some g → base ≤ g ∧ g < W.heap.size) := by rw [hPZ, hPE]; exact LZL
 clear hPAt hPZ hPO hPM hPE hPK hn
 obtain ⟨gc, hgc⟩ : ∃ f, f = gcells x := ⟨_, rfl⟩
 rw [← hgc] at hb VL HA HE HEL HSL HSZ HGL HG1 HSG HTA HTO HEQ HMK HSP HIM
 rw [← hgc]
 clear hgc
 go_enter Tryz.func5, Tryz.ntmps5
 go_upto_region 2 with fail
 generalize w.alloc (.cells (gc p).toArray 52) = w1 at *
 refine wp_region_list ?_
 refine wpList_load_mid rfl 52 _ rfl w.heap.size 0 rfl (gc p) _ VL.out.range Tryz.underlying52 rfl (HSL.out p) ?_
 go_wp2_with fail
 refine (HSG.out _ HA.out).mono ?_
 rintro e w2 ⟨l1, rfl, z1, hd⟩
 replace HA := Lib.hid (Gam.At.kept HA.out hd)
 replace hb := hb.trans (hd.mono hb.size)
 replace VL := Lib.hid (VL.out.kept hd)
 replace HE := Lib.hid (HE.out.kept hd)
 replace HEL := Lib.hid (HEL.out.kept hd)
 clear hd
 rcases z1 with rfl | ⟨y1, z1⟩
 ·go_wp2
  go_ret
  exact ⟨rfl, hb⟩
 have n1 : ¬ l1 < 0 := by omega
 have hsm : x.small := by
  unfold Gam.sz Stp.sz Tls.sz at z1
  refine ⟨⟨⟨?_, ?_⟩, ?_⟩, ?_, ?_, ?_⟩ <;> omega
 have hlz : x.setup.tiles.letters.size ≤ 1048576 := by
  unfold Gam.sz Stp.sz Tls.sz at z1
  omega
 have hwz : x.last.play.word.size ≤ 1048576 := by
  unfold Gam.sz Lst.sz Ply.sz at z1
  omega
 replace HTO := Lib.hid (HTO.out hsm)
 replace HTA := Lib.hid (HTA.out hsm)
 replace HMK := Lib.hid (HMK.out hsm)
 replace HSP := Lib.hid (HSP.out hsm)
 replace HRQ := Lib.hid (HRQ.out hsm)
 replace HRM := Lib.hid (HRM.out hsm)
 replace HRH := Lib.hid (HRH.out hsm)
 replace HIM := Lib.hid (HIM.out hsm hlz hwz)
 clear z1 y1 hsm hlz hwz HSG
 go_upto_region 5 with fail
 refine wp_region_list ?_
 refine wpList_load_mid rfl 52 _ rfl w.heap.size 0 rfl (gc p) _ VL.out.range Tryz.underlying52 rfl (HSL.out p) ?_
 go_wp2_with fail
 refine (HTA.out _ HA.out).mono ?_
 rintro e w3 ⟨q1, rfl, ho, hd⟩
 have S9 := Lib.hid ho
 clear ho
 replace HA := Lib.hid (Gam.At.kept HA.out hd)
 replace hb := hb.trans (hd.mono hb.size)
 replace VL := Lib.hid (VL.out.kept hd)
 replace HE := Lib.hid (HE.out.kept hd)
 replace HEL := Lib.hid (HEL.out.kept hd)
 clear hd
 go_wp2_with fail
 refine (HSP.out _ _ S9.out).mono ?_
 rintro e w4 ⟨q0, rfl, hs, hd⟩
 have S1 := Lib.hid hs
 clear hs
 replace HA := Lib.hid (Gam.At.kept HA.out hd)
 replace hb := hb.trans (hd.mono hb.size)
 replace VL := Lib.hid (VL.out.kept hd)
 replace HE := Lib.hid (HE.out.kept hd)
 replace HEL := Lib.hid (HEL.out.kept hd)
 clear hd
 clear S9 HSP
 go_upto_region 6 with fail
 generalize w4 = w5 at *
 have VLA := VL
 have HAA := HA
 have S1A := S1
 have HEA := HE
 have HELA := HEL
 have hbA := hb
 replace hb : Below w5.heap.size w5 w5 := Below.refl _ _
 refine wp_region_list ?_
 refine wpList_load_mid rfl 52 _ rfl w.heap.size 0 rfl (gc p) _ VL.out.range Tryz.underlying52 rfl (HSL.out p) ?_
 go_wp2_with fail
 refine (HTO.out _ HA.out).mono ?_
 rintro e w6 ⟨q2, rfl, hz2, hof2, hd⟩
 have O9 := Lib.hid hz2
 have HOF := Lib.hid hof2
 clear hz2 hof2 HTO
 replace hb := hb.trans (hd.mono hb.size)
 clear hd
 have V6 := VarAt.new w6 65 gzero
 obtain ⟨o6, k6⟩ := V6.put (gc q2) (by rw [HGL.out]; rfl)
 have tR := V6.there (n := (gc q2).length) (by rw [HGL.out]; rfl)
 have hd : Below w6.heap.size w6 ((w6.alloc (.cells gzero.toArray 65)).setCells w6.heap.size 0 (gc q2)) := ((Below.refl _ _).alloc (Nat.le_refl _) _).grown k6 (by simp) (fun q h => by cases h; exact Nat.le_refl _)
 have VX := Lib.hid o6
 clear V6 o6 k6
 go_upto_region 7 with (refine wpList_store_mid rfl 65 _ _ rfl w6.heap.size 0 (gc q2).toArray rfl rfl tR (HSZ.out q2) (all_oneCell_toArray (HG1.out q2)) ?_)
 clear tR
 change Code.wp _ _ _ _ ((w6.alloc (.cells gzero.toArray 65)).setCells w6.heap.size 0 (gc q2))
 replace O9 := Lib.hid (O9.out.kept hd)
 replace hb := hb.trans (hd.mono hb.size)
 clear hd
 generalize (w6.alloc (.cells gzero.toArray 65)).setCells w6.heap.size 0 (gc q2) = w7 at *
 generalize w6.heap.size = x6 at *
 have hb7 := hb.size
 have HN7 : Hid (∀ s ∈ x.effs q2, ∀ g, s.map (·.block) = some g → g < w7.heap.size) := Lib.hid (fun s hs g h => (O9.out.lt s hs g h).2)
 refine wp_region_list ?_
 refine wpList_load_mid rfl 65 _ rfl x6 0 rfl (gc q2) _ VX.out.range Tryz.underlying65 rfl (HSZ.out q2) ?_
 go_wp2_with fail
 refine (HIM.out _ _ O9.out.at (HEA.out.kept hb) (HELA.out.kept hb)).mono ?_
 rintro e w8 ⟨q5, rfl, hz5, hof5, hd⟩
 have Z5 := Lib.hid hz5
 have HO5 := Lib.hid hof5
 clear hz5 hof5
 have hs78 := hd.size
 have hs7 := hd.size
 replace O9 := Lib.hid (O9.out.kept hd)
 replace hb := hb.trans (hd.mono hb.size)
 replace VX := Lib.hid (VX.out.kept hd)
 clear hd
 go_upto_region 8 with fail
 generalize w8 = w9 at *
 have S1 := Lib.hid (LAK.out _ _ _ S1A.out hb)
 have hkk : (kc != kc) = false := by simp
 go_wp2_with fail
 refine (HRQ.out _ _ _ (LZA.out _ _ _ Z5.out) S1.out).mono ?_
 rintro e wa ⟨rfl, hd⟩
 replace O9 := Lib.hid (O9.out.kept hd)
 replace Z5 := Lib.hid (LZK.out _ _ _ _ Z5.out hd)
 replace hs7 := Nat.le_trans hs7 hd.size
 replace hb := hb.trans (hd.mono hb.size)
 replace VX := Lib.hid (VX.out.kept hd)
 clear hd
 clear S1
 go_upto_region 10 with fail
 have hd : Below wa.heap.size wa wa.drew := (Below.refl _ _).drew
 replace O9 := Lib.hid (O9.out.kept hd)
 replace Z5 := Lib.hid (LZK.out _ _ _ _ Z5.out hd)
 replace hs7 := Nat.le_trans hs7 hd.size
 replace hb := hb.trans (hd.mono hb.size)
 replace VX := Lib.hid (VX.out.kept hd)
 clear hd
 have VL := Lib.hid (VLA.out.kept hb)
 have HA := Lib.hid (Gam.At.kept HAA.out hb)
 refine wp_region_held_drew (S := fun w' => w'.rangeAt x6 0 (gc q2) ∧ w'.rangeAt w.heap.size 0 (gc p)) (by kernel_rfl) ⟨VX.out.range, VL.out.range⟩ (fun hHeld => ?_)
 refine wpAnyH_take (i := 0) (oi := _) (v := _) rfl (by kernel_rfl) (by kernel_rfl) (by kernel_rfl) (fun _ _ _ h => h) (yieldsIf_load_mid (by rfl) 65 _ rfl x6 0 rfl (gc q2) _ (fun _ h => h.1) Tryz.underlying65 rfl (HSZ.out q2)) (by assumption) ?_
 simp only [Act.put, List.setIfInBounds_toArray]
 refine wpAnyH_take (i := 1) (oi := _) (v := _) rfl (by kernel_rfl) (by kernel_rfl) (by kernel_rfl) (fun _ _ _ h => h) (yieldsIf_load_mid (by rfl) 52 _ rfl w.heap.size 0 rfl (gc p) _ (fun _ h => h.2) Tryz.underlying52 rfl (HSL.out p)) (by assumption) ?_
 simp only [Act.put]
 refine wpAnyH_ready (rs := [2]) (by kernel_rfl) (by simp) ?_
 refine AllReadyH.cons (o := _) rfl (fun K hK => ?_) AllReadyH.nil
 go_simp
 refine (HTA.out _ HA.out).mono ?_
 rintro e wb ⟨q3, rfl, hoq, hd⟩
 have S3 := Lib.hid hoq
 clear hoq
 replace O9 := Lib.hid (O9.out.kept hd)
 replace Z5 := Lib.hid (LZK.out _ _ _ _ Z5.out hd)
 replace hs7 := Nat.le_trans hs7 hd.size
 replace hb := hb.trans (hd.mono hb.size)
 replace VX := Lib.hid (VX.out.kept hd)
 replace VL := Lib.hid (VL.out.kept hd)
 clear hd
 clear HA
 go_wp2_with fail
 refine hK.out _ _ ⟨VX.out.range, VL.out.range⟩ (fun hHeld2 => ?_)
 clear hK K hHeld
 refine wpAnyH_ready (rs := [3]) (by kernel_rfl) (by simp) ?_
 refine AllReadyH.cons (o := _) rfl (fun K hK => ?_) AllReadyH.nil
 go_simp
 refine (HEQ.out _ _ _ O9.out.at S3.out).mono ?_
 rintro e wc ⟨rfl, hd⟩
 replace O9 := Lib.hid (O9.out.kept hd)
 replace Z5 := Lib.hid (LZK.out _ _ _ _ Z5.out hd)
 replace hs7 := Nat.le_trans hs7 hd.size
 replace hb := hb.trans (hd.mono hb.size)
 replace VX := Lib.hid (VX.out.kept hd)
 replace VL := Lib.hid (VL.out.kept hd)
 clear hd
 clear HEQ S3
 go_wp2_with fail
 refine hK.out _ _ ⟨VX.out.range, VL.out.range⟩ (fun hHeld => ?_)
 clear hK K hHeld2
 refine wpAnyH_ready (rs := [4]) (by kernel_rfl) (by simp) ?_
 refine AllReadyH.cons (o := _) rfl (fun K hK => ?_) AllReadyH.nil
 go_simp
 refine hK.out _ _ ⟨VX.out.range, VL.out.range⟩ (fun hHeld2 => ?_)
 clear hK K hHeld
 refine wpAnyH_done (by kernel_rfl) ?_ _
 clear hHeld2 VL
 generalize wc = wd at *
 go_upto_region 13 with fail
 refine wp_region_list ?_
 refine wpList_load_mid rfl 65 _ rfl x6 0 rfl (gc q2) _ VX.out.range Tryz.underlying65 rfl (HSZ.out q2) ?_
 go_wp2_with fail
 refine (HMK.out _ _ _ O9.out HOF.out hb.size).mono ?_
 rintro e we ⟨rfl, hw⟩
 replace hs7 := Nat.le_trans hs7 hw.size
 replace hb := hb.trans hw.below
 replace Z5 := Lib.hid (LZW.out _ _ _ _ _ _ Z5.out hw (fun s hs t ht => off_of_lt (HN7.out s hs) (fun g h => (LZL.out _ _ _ Z5.out t ht g h).1)))
 clear hw O9 VX HN7 HOF HMK
 have hq1 : ¬ ((1 : Int) + ((x.cnt : Nat) : Int)) < 0 := by omega
 generalize x.cnt = xc at *
 have S1 := Lib.hid (LAK.out _ _ _ S1A.out hb)
 go_wp2_with fail
 refine (HRQ.out _ _ _ (LZA.out _ _ _ Z5.out) S1.out).mono ?_
 rintro e wf ⟨rfl, hd⟩
 replace Z5 := Lib.hid (LZK.out _ _ _ _ Z5.out hd)
 replace hs7 := Nat.le_trans hs7 hd.size
 replace hb := hb.trans (hd.mono hb.size)
 clear hd
 clear S1 hq1
 go_upto_region 17 with fail
 go_wp2_with fail
 refine (HRM.out _ _ _ Z5.out HO5.out hs7).mono ?_
 rintro e wg ⟨rfl, hz6, hw⟩
 have M5 := Lib.hid hz6
 clear hz6
 replace hb := hb.trans (hw.below.mono hb7)
 clear hw Z5 HO5 hs7
 have hq2 : ¬ ((1 : Int) + (n : Int)) < 0 := by omega
 have hq3 : ((1 : Int) + (n : Int) != 1 + (n : Int)) = false := by simp
 go_upto_region 19 with fail
 go_wp2_with fail
 refine (HRH.out _ _ (LMA.out _ _ _ M5.out)).mono ?_
 rintro e wh ⟨rfl, hd⟩
 replace M5 := Lib.hid (LMK.out _ _ _ _ M5.out hd)
 replace hb := hb.trans (hd.mono hb.size)
 clear hd
 go_upto_region 24 with fail
 have VL := Lib.hid (VLA.out.kept hb)
 have HA := Lib.hid (Gam.At.kept HAA.out hb)
 refine wp_region_list ?_
 refine wpList_load_mid rfl 52 _ rfl w.heap.size 0 rfl (gc p) _ VL.out.range Tryz.underlying52 rfl (HSL.out p) ?_
 go_wp2_with fail
 refine (HTA.out _ HA.out).mono ?_
 rintro e wi ⟨q6, rfl, hoq, hd⟩
 have S6 := Lib.hid hoq
 clear hoq VL HA
 replace M5 := Lib.hid (LMK.out _ _ _ _ M5.out hd)
 replace hb := hb.trans (hd.mono hb.size)
 clear hd
 go_wp2_with fail
 refine (HIM.out _ _ S6.out (HEA.out.kept hb) (HELA.out.kept hb)).mono ?_
 rintro e wj ⟨q7, rfl, hz7, hof7, hd⟩
 have Z7 := Lib.hid hz7
 clear hz7 hof7 S6
 replace M5 := Lib.hid (LMK.out _ _ _ _ M5.out hd)
 replace hb := hb.trans (hd.mono hb.size)
 clear hd
 go_upto_region 25 with fail
 generalize wj = wk at *
 have S1 := Lib.hid (LAK.out _ _ _ S1A.out hb)
 go_wp2_with fail
 refine (HRQ.out _ _ _ (LZA.out _ _ _ Z7.out) S1.out).mono ?_
 rintro e wl ⟨rfl, hd⟩
 replace M5 := Lib.hid (LMK.out _ _ _ _ M5.out hd)
 replace hb := hb.trans (hd.mono hb.size)
 clear hd
 clear S1 Z7
 go_upto_region 28 with fail
 go_wp2_with fail
 refine (HRH.out _ _ (LMA.out _ _ _ M5.out)).mono ?_
 rintro e wm ⟨rfl, hd⟩
 replace hb := hb.trans (hd.mono hb.size)
 clear hd
 go_wp2
 go_ret
 exact ⟨rfl, hbA.trans (hb.mono hbA.size)⟩
open Go.Joins Go.Deep Go.Lib in
theorem cenvFinalChange_of_laid {W : World} (h : laidMetH Tryz.prog Rows.fnExactFinalChangeRow.laid W) : CEnv W := by
 rw [MakeChecks.laidMetH_plain _ _ _ (by kernel_rfl)] at h
 exact cenv_of_met h (List.mem_cons_self) (List.mem_cons_of_mem _ (List.mem_cons_self)) (List.mem_cons_of_mem _ (List.mem_cons_of_mem _ (List.mem_cons_self)))
end Go.Proofs.YtofcampipllegaaGreatDoor
