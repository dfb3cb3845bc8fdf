/- Plain definitions: the code of an action, a turn without points, the end of a game, a pass. No condition. · Contracts: the code of an action of a game, and whether a game waits: the reference. Texts fit. · Contracts: the code of an action of a game: the program. Go's tables of unicode and unicode/utf8 hold what is laid (CEnv), internal/bytealg's MaxLen a number (EnvL); texts fit. · Contracts: whether a game waits: the program and the reference. No condition beyond a valid game. -/
import Derived.Test.YtkjhapbjdjcipaaGreatDoorGfC
import Derived.Test.YtkjhapbjdjcipaaGreatDoorGfA
set_option maxRecDepth 100000
set_option maxHeartbeats 4000000
namespace Go.Proofs.YtkjhapbjdjcipaaGreatDoor
open Go.ChangeShapes Go.WideShapes Go.ChangeAt Go.RowKit Go.Sort

/-- the code of an action that takes k seconds -/
def Gam.begin (x:Gam) (k:Int):Int :=
 if x.ok=false then 1 else if x.over=true then 10 else if withinB k 0 36000=false∨x.clocks.getD x.player.toNat 0 - k < -36000 then 2
 else if withinB (x.scores.getD 0 0) (-50000) 50000=false∨withinB (x.scores.getD 1 0) (-50000) 50000=false then 5 else 0
theorem Gam.begin1 {x:Gam} {k:Int} (h:x.ok=false):x.begin k=1:=by unfold Gam.begin;rw [if_pos h]
theorem Gam.begin2 {x:Gam} {k:Int} (h:x.ok=true) (h1:x.over=true):x.begin k=10:=by unfold Gam.begin;rw [if_neg (by rw [h];decide),if_pos h1]
theorem Gam.begin3 {x:Gam} {k:Int} (h:x.ok=true) (h1:x.over=false) (h2:withinB k 0 36000=false∨x.clocks.getD x.player.toNat 0 - k < -36000):x.begin k=2:=by unfold Gam.begin;rw [if_neg (by rw [h];decide),if_neg (by rw [h1];decide),if_pos h2]
theorem Gam.begin4 {x:Gam} {k:Int} (h:x.ok=true) (h1:x.over=false) (h2:¬ (withinB k 0 36000=false∨x.clocks.getD x.player.toNat 0 - k < -36000)) (h3:withinB (x.scores.getD 0 0) (-50000) 50000=false∨withinB (x.scores.getD 1 0) (-50000) 50000=false):x.begin k=5:=by unfold Gam.begin;rw [if_neg (by rw [h];decide),if_neg (by rw [h1];decide),if_neg h2,if_pos h3]
theorem Gam.begin5 {x:Gam} {k:Int} (h:x.ok=true) (h1:x.over=false) (h2:¬ (withinB k 0 36000=false∨x.clocks.getD x.player.toNat 0 - k < -36000)) (h3:¬ (withinB (x.scores.getD 0 0) (-50000) 50000=false∨withinB (x.scores.getD 1 0) (-50000) 50000=false)):x.begin k=0:=by unfold Gam.begin;rw [if_neg (by rw [h];decide),if_neg (by rw [h1];decide),if_neg h2,if_neg h3]
/-- whether the other player has no tiles any more, and there are none to draw -/
def Gam.waits (x:Gam):Bool:=decide (x.bag.size=0) && decide ((x.rack (1 - x.player).toNat).size=0)
def Lst.turn (kind player:Int):Lst:=⟨kind,player,⟨0,0,false,⟨#[]⟩⟩,⟨#[]⟩,⟨#[]⟩,0,0⟩
/-- a game that has ended -/
def Gam.settled (x:Gam):Gam:={ x with scores:=[x.scores.getD 0 0+x.chg 0,x.scores.getD 1 0+x.chg 1],over:=true }
def Gam.none:Gam:=⟨⟨⟨⟨#[]⟩,[],[],0⟩,[],⟨0,⟨#[]⟩,⟨#[]⟩⟩,0,0⟩,⟨0,⟨#[]⟩,⟨#[]⟩⟩,⟨#[]⟩,[],[],[],0,0,Lst.turn 0 0,false⟩
theorem Lst.turn_fit (kind player:Int):(Lst.turn kind player).fit:=⟨Nat.zero_le _,Nat.zero_le _,Nat.zero_le _⟩
theorem Gam.settled_fine {x:Gam} (h:x.fit∧x.small):x.settled.fit∧x.settled.small:=by
 obtain ⟨⟨h1,h2,h3,h4,h5,h6,h7⟩,s1,s2,s3,s4⟩:=h
 exact ⟨⟨h1,h2,h3,h4,by simp [Gam.settled],h6,h7⟩,s1,s2,by simp [Gam.settled],s4⟩
theorem Gam.none_fine:Gam.none.fit∧Gam.none.small:=by
 have h0:(⟨#[]⟩:ByteArray).size≤9223372036854775807:=Nat.zero_le _
 simp [Gam.none,Gam.fit,Gam.small,Stp.fit,Stp.small,Tls.fit,Tls.small,Brd.fit,Lst.turn,Lst.fit,Ply.fit,h0]
/-- what an action that may begin knows -/
structure Gam.Begun (x:Gam) (k:Int):Prop where
 ok:x.ok=true
 open_:x.over=false
 secs:0≤k∧k≤36000
 left:-36000≤x.clocks.getD x.player.toNat 0 - k
 score0:-50000≤x.scores.getD 0 0∧x.scores.getD 0 0≤50000
 score1:-50000≤x.scores.getD 1 0∧x.scores.getD 1 0≤50000
theorem Gam.begin_go {x:Gam} {k:Int} (h:x.begin k=0):x.Begun k:=by
 unfold Gam.begin at h
 split at h
 ·cases h
 ·rename_i h1
  split at h
  ·cases h
  ·rename_i h2
   split at h
   ·cases h
   ·rename_i h3
    split at h
    ·cases h
    ·rename_i h4
     simp only [not_or,Bool.not_eq_false,Bool.not_eq_true,Int.not_lt,withinB_iff] at h1 h2 h3 h4
     exact ⟨h1,h2,h3.1,h3.2,h4.1,h4.2⟩
/-- what a turn without points asks of a game -/
structure Gam.Able (x:Gam) (k:Int):Prop where
 tiles:x.setup.tiles.ok=true
 racks:x.racks.length=2
 scores:x.scores.length=2
 clocks:x.clocks.length=2
 player:0≤x.player∧x.player≤1
 zeros:0≤x.zeros∧x.zeros≤6
 rack:∀ k,k < 2→(x.rack k).size≤7
 clock:∀ k,k < 2→-36000≤x.clocks.getD k 0∧x.clocks.getD k 0≤36000
 secs:0≤k∧k≤36000
 left:-36000≤x.clocks.getD x.player.toNat 0 - k
 score0:-50000≤x.scores.getD 0 0∧x.scores.getD 0 0≤50000
 score1:-50000≤x.scores.getD 1 0∧x.scores.getD 1 0≤50000
theorem getD_set2 {l:List Int} {i j:Nat} {v:Int} (hl:l.length=2) (hi:i < 2):(l.set i v).getD j 0=if i=j then v else l.getD j 0:=by
 rw [List.getD_eq_getElem?_getD,List.getD_eq_getElem?_getD,List.getElem?_set]
 by_cases h:i=j
 ·rw [if_pos h,if_pos h,if_pos (by omega)]
  rfl
 ·rw [if_neg h,if_neg h]
theorem two_list {l:List Int} (h:l.length=2):l=[l.getD 0 0,l.getD 1 0]:=by
 match l,h with
 | [a,b],_=>rfl
end Go.Proofs.YtkjhapbjdjcipaaGreatDoor

namespace Go.Proofs.YtkjhapbjdjcipaaGreatDoor
open Go.ChangeShapes Go.WideShapes Go.ChangeAt Go.RowKit Go.Sort

theorem l18Points_any (n:Int) (w:World):Calls Tryz.prog 66 #[.int .i64 n] w fun e w'=>e=.returned (.bool (withinB n (-50000) 50000))∧w=w':=by
 have HI:=Lh (l00In_any n (-50000) 50000 w)
 go_enter Tryz.func66,Tryz.ntmps66
 go_wp2_with fail
 refine (HI.out).mono ?_
 rintro e w' ⟨rfl,rfl⟩
 go_wp2
 go_ret
 exact ⟨rfl,rfl⟩
theorem l18Begin_any (x:Gam) (p:GaA) (g:Nat) (k:Int) (w:World) (hg:GAt w g x p) (hf:x.fit) :
  Calls Tryz.prog 28 #[.pointer (some ⟨g,0,none⟩),.int .i64 k] w fun e w'=>e=.returned (.int .i64 (x.begin k))∧Below w.heap.size w w':=by
 have HOK:Hid (∀ W,GAt W g x p→Calls Tryz.prog 55 #[.pointer (some ⟨g,0,none⟩)] W fun e w'=>e=.returned (.bool x.ok)∧Below W.heap.size W w'):=Lh (fun W h=>l18Ok_any x p g W h hf)
 have HI:Hid (∀ W,Calls Tryz.prog 65 #[.int .i64 k,.int .i64 0,.int .i64 36000] W fun e w'=>e=.returned (.bool (withinB k 0 36000))∧W=w'):=Lh (fun W=>l00In_any _ _ _ W)
 have HG:=Lh hg
 clear hg hf
 go_enter Tryz.func28,Tryz.ntmps28
 go_wp2_with fail
 refine (HOK.out _ HG.out).mono ?_
 rintro e w2 ⟨rfl,hb⟩
 replace HG:=Lh (HG.out.kept hb)
 clear HOK
 cases hk:x.ok with
 | false =>
  have HW:=Lh (Gam.begin1 (k:=k) hk)
  clear hk
  go_wp2
  go_ret
  exact ret_one (HW.out) rfl hb
 | true =>
  have HK:=Lh hk
  have HF:=Lh (Gam.fine hk)
  clear hk
  have c29:=HG.out.cell (i:=29) rfl
  cases ho:x.over with
  | true =>
   have HW:=Lh (Gam.begin2 (k:=k) HK.out ho)
   rw [ho] at c29
   clear ho
   go_wp2
   go_ret
   exact ret_one (HW.out) rfl hb
  | false =>
   have HO:=Lh ho
   rw [ho] at c29
   clear ho
   go_upto_region 5 with fail
   clear c29
   have HB3X:=Lh (fun h2=>Gam.begin3 (x:=x) (k:=k) HK.out HO.out h2)
   have HB4X:=Lh (fun h2 h3=>Gam.begin4 (x:=x) (k:=k) HK.out HO.out h2 h3)
   have HB5X:=Lh (fun h2 h3=>Gam.begin5 (x:=x) (k:=k) HK.out HO.out h2 h3)
   have HP0:=Lh (fun W=>l18Points_any (x.scores.getD 0 0) W)
   have HP1:=Lh (fun W=>l18Points_any (x.scores.getD 1 0) W)
   cases hi:withinB k 0 36000 with
   | false =>
    have HW:=Lh (HB3X.out (Or.inl hi))
    rw [hi] at HI
    clear hi
    go_quiet (first | (go_at_call 65;with_reducible exact quiet_of_eq (HI.out _)))
    have hd:Below w2.heap.size w2 (w2.drewN nq):=(Drew.drewN (Drew.refl _) nq).below _
    replace hb:=hb.trans (hd.mono hb.size)
    replace HG:=Lh (HG.out.kept hd)
    clear hd
    generalize w2.drewN nq=w3 at *
    clear HG
    go_wp2
    go_ret
    exact ret_one (HW.out) rfl hb
   | true =>
    rw [hi] at HI
    have hk1:=withinB_iff.1 hi
    have hp:=HF.out.player
    have hc0:=HF.out.clock 0 (by omega)
    have hc1:=HF.out.clock 1 (by omega)
    obtain ⟨kb,ko,hka,t0⟩:=num_cell (HG.out.at_.2.2.2) (show 0 < x.clocks.length by have:=HF.out.clocks;omega)
    obtain ⟨kb1,ko1,hkb,t1⟩:=num_cell (HG.out.at_.2.2.2) (show 1 < x.clocks.length by have:=HF.out.clocks;omega)
    rw [hka] at hkb
    cases hkb
    rw [Nat.add_zero] at t0
    have c16:=HG.out.cell (i:=16) rfl
    have c17:=HG.out.cell (i:=17) rfl
    rw [hka,HF.out.clocks] at c16
    clear hka
    generalize x.player=pl at *
    obtain rfl | rfl:pl=0∨pl=1:=by omega
    ·have HB3:Hid (withinB k 0 36000=false∨x.clocks.getD 0 0 - k < -36000→x.begin k=2):=HB3X
     have HB4Y:Hid (¬ (withinB k 0 36000=false∨x.clocks.getD 0 0 - k < -36000)→(withinB (x.scores.getD 0 0) (-50000) 50000=false∨withinB (x.scores.getD 1 0) (-50000) 50000=false)→x.begin k=5):=HB4X
     have HB5Y:Hid (¬ (withinB k 0 36000=false∨x.clocks.getD 0 0 - k < -36000)→¬ (withinB (x.scores.getD 0 0) (-50000) 50000=false∨withinB (x.scores.getD 1 0) (-50000) 50000=false)→x.begin k=0):=HB5X
     clear HB3X HB4X HB5X
     clear t1
     generalize x.clocks.getD 0 0=ck at *
     by_cases hl:ck - k < -36000
     ·have HW:=Lh (HB3.out (Or.inr hl))
      have wr1:IntKind.i64.wrap (ck - k)=ck - k:=IntWalk.i64_in _ (by omega)
      go_quiet (first | (go_at_call 65;with_reducible exact quiet_of_eq (HI.out _)))
      have hd:Below w2.heap.size w2 (w2.drewN nq):=(Drew.drewN (Drew.refl _) nq).below _
      replace hb:=hb.trans (hd.mono hb.size)
      replace HG:=Lh (HG.out.kept hd)
      clear hd
      generalize w2.drewN nq=w3 at *
      clear HG c16 c17
      go_wp2
      go_ret
      exact ret_one (HW.out) rfl hb
     ·have wr1:IntKind.i64.wrap (ck - k)=ck - k:=IntWalk.i64_in _ (by omega)
      have hno:¬ (withinB k 0 36000=false∨ck - k < -36000):=by rw [hi];rintro (h | h);cases h;exact hl h
      have HB4:=Lh (HB4Y.out hno)
      have HB5:=Lh (HB5Y.out hno)
      clear hno
      go_quiet (first | (go_at_call 65;with_reducible exact quiet_of_eq (HI.out _)))
      have hd:Below w2.heap.size w2 (w2.drewN nq):=(Drew.drewN (Drew.refl _) nq).below _
      replace hb:=hb.trans (hd.mono hb.size)
      replace HG:=Lh (HG.out.kept hd)
      clear hd
      generalize w2.drewN nq=w3 at *
      go_upto_region 7 with fail
      clear hl wr1 c16 c17
      obtain ⟨sb,so,hsa,s0⟩:=num_cell (HG.out.at_.2.2.1) (show 0 < x.scores.length by have:=HF.out.scores;omega)
      obtain ⟨sb1,so1,hsb,s1⟩:=num_cell (HG.out.at_.2.2.1) (show 1 < x.scores.length by have:=HF.out.scores;omega)
      rw [hsa] at hsb
      cases hsb
      rw [Nat.add_zero] at s0
      have c15:=HG.out.cell (i:=15) rfl
      rw [hsa,HF.out.scores] at c15
      clear hsa
      generalize x.scores.getD 0 0=n0 at *
      generalize x.scores.getD 1 0=n1 at *
      go_wp2_with fail
      refine (HP0.out _).mono ?_
      rintro e w' ⟨rfl,rfl⟩
      cases h0:withinB n0 (-50000) 50000 with
      | false =>
       have HW:=Lh (HB4.out (Or.inl h0))
       clear h0 HG
       go_wp2
       go_ret
       exact ret_one (HW.out) rfl hb
      | true =>
       go_wp2_with fail
       refine (HP1.out _).mono ?_
       rintro e w' ⟨rfl,rfl⟩
       cases h1:withinB n1 (-50000) 50000 with
       | false =>
        have HW:=Lh (HB4.out (Or.inr h1))
        clear h0 h1 HG
        go_wp2
        go_ret
        exact ret_one (HW.out) rfl hb
       | true =>
        have HW:=Lh (HB5.out (by rw [h0,h1];rintro (h | h)<;>cases h))
        clear h0 h1 HG
        go_wp2
        go_ret
        exact ret_one (HW.out) rfl hb
    ·have HB3:Hid (withinB k 0 36000=false∨x.clocks.getD 1 0 - k < -36000→x.begin k=2):=HB3X
     have HB4Y:Hid (¬ (withinB k 0 36000=false∨x.clocks.getD 1 0 - k < -36000)→(withinB (x.scores.getD 0 0) (-50000) 50000=false∨withinB (x.scores.getD 1 0) (-50000) 50000=false)→x.begin k=5):=HB4X
     have HB5Y:Hid (¬ (withinB k 0 36000=false∨x.clocks.getD 1 0 - k < -36000)→¬ (withinB (x.scores.getD 0 0) (-50000) 50000=false∨withinB (x.scores.getD 1 0) (-50000) 50000=false)→x.begin k=0):=HB5X
     clear HB3X HB4X HB5X
     clear t0
     generalize x.clocks.getD 1 0=ck at *
     by_cases hl:ck - k < -36000
     ·have HW:=Lh (HB3.out (Or.inr hl))
      have wr1:IntKind.i64.wrap (ck - k)=ck - k:=IntWalk.i64_in _ (by omega)
      go_quiet (first | (go_at_call 65;with_reducible exact quiet_of_eq (HI.out _)))
      have hd:Below w2.heap.size w2 (w2.drewN nq):=(Drew.drewN (Drew.refl _) nq).below _
      replace hb:=hb.trans (hd.mono hb.size)
      replace HG:=Lh (HG.out.kept hd)
      clear hd
      generalize w2.drewN nq=w3 at *
      clear HG c16 c17
      go_wp2
      go_ret
      exact ret_one (HW.out) rfl hb
     ·have wr1:IntKind.i64.wrap (ck - k)=ck - k:=IntWalk.i64_in _ (by omega)
      have hno:¬ (withinB k 0 36000=false∨ck - k < -36000):=by rw [hi];rintro (h | h);cases h;exact hl h
      have HB4:=Lh (HB4Y.out hno)
      have HB5:=Lh (HB5Y.out hno)
      clear hno
      go_quiet (first | (go_at_call 65;with_reducible exact quiet_of_eq (HI.out _)))
      have hd:Below w2.heap.size w2 (w2.drewN nq):=(Drew.drewN (Drew.refl _) nq).below _
      replace hb:=hb.trans (hd.mono hb.size)
      replace HG:=Lh (HG.out.kept hd)
      clear hd
      generalize w2.drewN nq=w3 at *
      go_upto_region 7 with fail
      clear hl wr1 c16 c17
      obtain ⟨sb,so,hsa,s0⟩:=num_cell (HG.out.at_.2.2.1) (show 0 < x.scores.length by have:=HF.out.scores;omega)
      obtain ⟨sb1,so1,hsb,s1⟩:=num_cell (HG.out.at_.2.2.1) (show 1 < x.scores.length by have:=HF.out.scores;omega)
      rw [hsa] at hsb
      cases hsb
      rw [Nat.add_zero] at s0
      have c15:=HG.out.cell (i:=15) rfl
      rw [hsa,HF.out.scores] at c15
      clear hsa
      generalize x.scores.getD 0 0=n0 at *
      generalize x.scores.getD 1 0=n1 at *
      go_wp2_with fail
      refine (HP0.out _).mono ?_
      rintro e w' ⟨rfl,rfl⟩
      cases h0:withinB n0 (-50000) 50000 with
      | false =>
       have HW:=Lh (HB4.out (Or.inl h0))
       clear h0 HG
       go_wp2
       go_ret
       exact ret_one (HW.out) rfl hb
      | true =>
       go_wp2_with fail
       refine (HP1.out _).mono ?_
       rintro e w' ⟨rfl,rfl⟩
       cases h1:withinB n1 (-50000) 50000 with
       | false =>
        have HW:=Lh (HB4.out (Or.inr h1))
        clear h0 h1 HG
        go_wp2
        go_ret
        exact ret_one (HW.out) rfl hb
       | true =>
        have HW:=Lh (HB5.out (by rw [h0,h1];rintro (h | h)<;>cases h))
        clear h0 h1 HG
        go_wp2
        go_ret
        exact ret_one (HW.out) rfl hb
end Go.Proofs.YtkjhapbjdjcipaaGreatDoor

namespace Go.Proofs.YtkjhapbjdjcipaaGreatDoor
open Go.ChangeShapes Go.WideShapes Go.ChangeAt Go.RowKit Go.Sort

theorem actionCode_any (x:Gam) (p:GaA) (k:Int) (w:World) (ha:x.At p w) (hf:x.fit) (htz:x.setup.tiles.letters.size≤1048576) (hwz:x.last.play.word.size≤1048576) (hE:CEnv w) (hL:EnvL w) :
  Calls Tryz.prog 39 #[.agg (gcells x p).toArray,.int .i64 k] w fun e w'=>e=.returned (.int .i64 (x.begin k))∧Below w.heap.size w w':=by
 have HG:=Lh (GAt.new w x p 48 ha)
 have hb:Below w.heap.size w (w.alloc (.cells (gcells x p).toArray 48)):=(Below.refl _ _).alloc (Nat.le_refl _) _
 have HE:=Lh (hE.kept hb)
 have HL:=Lh (hL.kept hb)
 have HSZ:=Lh (size_game x p)
 have HRA:Hid ((w.alloc (.cells (gcells x p).toArray 48)).rangeAt w.heap.size 0 (gcells x p)):=Lh HG.out.cells
 have HVG:Hid (∀ W,x.At p W→CEnv W→EnvL W→Calls Tryz.prog 57 #[.agg (gcells x p).toArray] W fun e w'=>e=.returned (.bool x.ok)∧Below W.heap.size W w'):=Lh (fun W h h2 h3=>implValidGame_any x p W h hf htz hwz h2 h3)
 have HI:Hid (∀ W,Calls Tryz.prog 81 #[.int .i64 k,.int .i64 0,.int .i64 36000] W fun e w'=>e=.returned (.bool (withinB k 0 36000))∧W=w'):=Lh (fun W=>within_any _ _ _ W)
 have HP0:Hid (∀ W,Calls Tryz.prog 81 #[.int .i64 (x.scores.getD 0 0),.int .i64 (-50000),.int .i64 50000] W fun e w'=>e=.returned (.bool (withinB (x.scores.getD 0 0) (-50000) 50000))∧W=w'):=Lh (fun W=>within_any _ _ _ W)
 have HP1:Hid (∀ W,Calls Tryz.prog 81 #[.int .i64 (x.scores.getD 1 0),.int .i64 (-50000),.int .i64 50000] W fun e w'=>e=.returned (.bool (withinB (x.scores.getD 1 0) (-50000) 50000))∧W=w'):=Lh (fun W=>within_any _ _ _ W)
 clear ha hf htz hwz hE hL
 obtain ⟨cs,hcs⟩:∃ cs,cs=gcells x p:=⟨_,rfl⟩
 rw [← hcs]
 rw [← hcs] at HG hb HE HL HSZ HRA HVG
 clear hcs
 go_enter Tryz.func39,Tryz.ntmps39
 go_upto_region 1 with fail
 generalize w.alloc (.cells cs.toArray 48)=w1 at *
 have rA:=HRA.out
 clear HRA
 refine wp_region_list ?_
 refine wpList_load_mid rfl 48 _ rfl w.heap.size 0 rfl cs _ rA Tryz.underlying48 rfl HSZ.out ?_
 clear rA
 go_wp2_with fail
 refine (HVG.out _ HG.out.at_ HE.out HL.out).mono ?_
 rintro e w2 ⟨rfl,hd⟩
 replace hb:=hb.trans (hd.mono hb.size)
 replace HG:=Lh (HG.out.kept hd)
 clear hd
 clear HVG HE HL HSZ
 cases hk:x.ok with
 | false =>
  have HW:=Lh (Gam.begin1 (k:=k) hk)
  clear hk
  go_wp2
  go_ret
  exact ret_one (HW.out) rfl hb
 | true =>
  have HK:=Lh hk
  have HF:=Lh (Gam.fine hk)
  clear hk
  have c29:=HG.out.cell (i:=29) rfl
  cases ho:x.over with
  | true =>
   have HW:=Lh (Gam.begin2 (k:=k) HK.out ho)
   rw [ho] at c29
   clear ho
   go_wp2
   go_ret
   exact ret_one (HW.out) rfl hb
  | false =>
   have HO:=Lh ho
   rw [ho] at c29
   clear ho
   go_upto_region 5 with fail
   clear c29
   have HB3X:=Lh (fun h2=>Gam.begin3 (x:=x) (k:=k) HK.out HO.out h2)
   have HB4X:=Lh (fun h2 h3=>Gam.begin4 (x:=x) (k:=k) HK.out HO.out h2 h3)
   have HB5X:=Lh (fun h2 h3=>Gam.begin5 (x:=x) (k:=k) HK.out HO.out h2 h3)
   cases hi:withinB k 0 36000 with
   | false =>
    have HW:=Lh (HB3X.out (Or.inl hi))
    rw [hi] at HI
    clear hi
    go_wp2_with fail
    refine (HI.out _).mono ?_
    rintro e w' ⟨rfl,rfl⟩
    clear HG
    go_wp2
    go_ret
    exact ret_one (HW.out) rfl hb
   | true =>
    rw [hi] at HI
    have hk1:=withinB_iff.1 hi
    have hp:=HF.out.player
    have hc0:=HF.out.clock 0 (by omega)
    have hc1:=HF.out.clock 1 (by omega)
    obtain ⟨kb,ko,hka,t0⟩:=num_cell (HG.out.at_.2.2.2) (show 0 < x.clocks.length by have:=HF.out.clocks;omega)
    obtain ⟨kb1,ko1,hkb,t1⟩:=num_cell (HG.out.at_.2.2.2) (show 1 < x.clocks.length by have:=HF.out.clocks;omega)
    rw [hka] at hkb
    cases hkb
    rw [Nat.add_zero] at t0
    have c16:=HG.out.cell (i:=16) rfl
    have c17:=HG.out.cell (i:=17) rfl
    rw [hka,HF.out.clocks] at c16
    clear hka
    generalize x.player=pl at *
    obtain rfl | rfl:pl=0∨pl=1:=by omega
    ·have HB3:Hid (withinB k 0 36000=false∨x.clocks.getD 0 0 - k < -36000→x.begin k=2):=HB3X
     have HB4Y:Hid (¬ (withinB k 0 36000=false∨x.clocks.getD 0 0 - k < -36000)→(withinB (x.scores.getD 0 0) (-50000) 50000=false∨withinB (x.scores.getD 1 0) (-50000) 50000=false)→x.begin k=5):=HB4X
     have HB5Y:Hid (¬ (withinB k 0 36000=false∨x.clocks.getD 0 0 - k < -36000)→¬ (withinB (x.scores.getD 0 0) (-50000) 50000=false∨withinB (x.scores.getD 1 0) (-50000) 50000=false)→x.begin k=0):=HB5X
     clear HB3X HB4X HB5X t1
     generalize x.clocks.getD 0 0=ck at *
     by_cases hl:ck - k < -36000
     ·have HW:=Lh (HB3.out (Or.inr hl))
      have wr1:IntKind.i64.wrap (ck - k)=ck - k:=IntWalk.i64_in _ (by omega)
      go_wp2_with fail
      refine (HI.out _).mono ?_
      rintro e w' ⟨rfl,rfl⟩
      clear HG
      go_wp2
      go_ret
      exact ret_one (HW.out) rfl hb
     ·have wr1:IntKind.i64.wrap (ck - k)=ck - k:=IntWalk.i64_in _ (by omega)
      have hno:¬ (withinB k 0 36000=false∨ck - k < -36000):=by rw [hi];rintro (h | h);cases h;exact hl h
      have HB4:=Lh (HB4Y.out hno)
      have HB5:=Lh (HB5Y.out hno)
      clear hno
      go_wp2_with fail
      refine (HI.out _).mono ?_
      rintro e w' ⟨rfl,rfl⟩
      obtain ⟨sb,so,hsa,s0⟩:=num_cell (HG.out.at_.2.2.1) (show 0 < x.scores.length by have:=HF.out.scores;omega)
      obtain ⟨sb1,so1,hsb,s1⟩:=num_cell (HG.out.at_.2.2.1) (show 1 < x.scores.length by have:=HF.out.scores;omega)
      rw [hsa] at hsb
      cases hsb
      rw [Nat.add_zero] at s0
      have c15:=HG.out.cell (i:=15) rfl
      rw [hsa,HF.out.scores] at c15
      clear hsa
      go_upto_region 8 with fail
      clear hl wr1 c15 c16 c17
      generalize x.scores.getD 0 0=n0 at *
      generalize x.scores.getD 1 0=n1 at *
      go_loopw [6,32] (fun _ iv wr=>∃ j:Nat,j≤2∧iv=.int .i64 j∧w2=wr∧(0 < j→withinB n0 (-50000) 50000=true)∧(1 < j→withinB n1 (-50000) 50000=true)) (fun _ iv _=>2 - (intOf iv).toNat)
      case atStart=>exact ⟨0,Nat.zero_le _,rfl,rfl,fun h=>absurd h (by omega),fun h=>absurd h (by omega)⟩
      case round =>
       obtain ⟨j,hj,rfl,rfl,g0,g1⟩:=hrel
       obtain rfl | rfl | rfl:j=0∨j=1∨j=2:=by omega
       ·go_wp2_with fail
        refine (HP0.out _).mono ?_
        rintro e w' ⟨rfl,rfl⟩
        cases h0:withinB n0 (-50000) 50000 with
        | false =>
         have HW:=Lh (HB4.out (Or.inl h0))
         clear h0 HG
         go_wp2
         go_ret
         exact ret_one (HW.out) rfl hb
        | true =>
         go_wp2
         go_roundw
         case rel=>exact ⟨1,by omega,by go_num,trivial,fun _=>h0,fun h=>absurd h (by omega)⟩
         case measure=>simp [intOf]
       ·have h0:=g0 (by omega)
        go_wp2_with fail
        refine (HP1.out _).mono ?_
        rintro e w' ⟨rfl,rfl⟩
        cases h1:withinB n1 (-50000) 50000 with
        | false =>
         have HW:=Lh (HB4.out (Or.inr h1))
         clear h0 h1 HG
         go_wp2
         go_ret
         exact ret_one (HW.out) rfl hb
        | true =>
         go_wp2
         go_roundw
         case rel=>exact ⟨2,by omega,by go_num,trivial,fun _=>h0,fun _=>h1⟩
         case measure=>simp [intOf]
       ·have HW:=Lh (HB5.out (by rw [g0 (by omega),g1 (by omega)];rintro (h | h)<;>cases h))
        clear g0 g1 HG
        go_wp2
        go_ret
        exact ret_one (HW.out) rfl hb
    ·have HB3:Hid (withinB k 0 36000=false∨x.clocks.getD 1 0 - k < -36000→x.begin k=2):=HB3X
     have HB4Y:Hid (¬ (withinB k 0 36000=false∨x.clocks.getD 1 0 - k < -36000)→(withinB (x.scores.getD 0 0) (-50000) 50000=false∨withinB (x.scores.getD 1 0) (-50000) 50000=false)→x.begin k=5):=HB4X
     have HB5Y:Hid (¬ (withinB k 0 36000=false∨x.clocks.getD 1 0 - k < -36000)→¬ (withinB (x.scores.getD 0 0) (-50000) 50000=false∨withinB (x.scores.getD 1 0) (-50000) 50000=false)→x.begin k=0):=HB5X
     clear HB3X HB4X HB5X t0
     generalize x.clocks.getD 1 0=ck at *
     by_cases hl:ck - k < -36000
     ·have HW:=Lh (HB3.out (Or.inr hl))
      have wr1:IntKind.i64.wrap (ck - k)=ck - k:=IntWalk.i64_in _ (by omega)
      go_wp2_with fail
      refine (HI.out _).mono ?_
      rintro e w' ⟨rfl,rfl⟩
      clear HG
      go_wp2
      go_ret
      exact ret_one (HW.out) rfl hb
     ·have wr1:IntKind.i64.wrap (ck - k)=ck - k:=IntWalk.i64_in _ (by omega)
      have hno:¬ (withinB k 0 36000=false∨ck - k < -36000):=by rw [hi];rintro (h | h);cases h;exact hl h
      have HB4:=Lh (HB4Y.out hno)
      have HB5:=Lh (HB5Y.out hno)
      clear hno
      go_wp2_with fail
      refine (HI.out _).mono ?_
      rintro e w' ⟨rfl,rfl⟩
      obtain ⟨sb,so,hsa,s0⟩:=num_cell (HG.out.at_.2.2.1) (show 0 < x.scores.length by have:=HF.out.scores;omega)
      obtain ⟨sb1,so1,hsb,s1⟩:=num_cell (HG.out.at_.2.2.1) (show 1 < x.scores.length by have:=HF.out.scores;omega)
      rw [hsa] at hsb
      cases hsb
      rw [Nat.add_zero] at s0
      have c15:=HG.out.cell (i:=15) rfl
      rw [hsa,HF.out.scores] at c15
      clear hsa
      go_upto_region 8 with fail
      clear hl wr1 c15 c16 c17
      generalize x.scores.getD 0 0=n0 at *
      generalize x.scores.getD 1 0=n1 at *
      go_loopw [6,32] (fun _ iv wr=>∃ j:Nat,j≤2∧iv=.int .i64 j∧w2=wr∧(0 < j→withinB n0 (-50000) 50000=true)∧(1 < j→withinB n1 (-50000) 50000=true)) (fun _ iv _=>2 - (intOf iv).toNat)
      case atStart=>exact ⟨0,Nat.zero_le _,rfl,rfl,fun h=>absurd h (by omega),fun h=>absurd h (by omega)⟩
      case round =>
       obtain ⟨j,hj,rfl,rfl,g0,g1⟩:=hrel
       obtain rfl | rfl | rfl:j=0∨j=1∨j=2:=by omega
       ·go_wp2_with fail
        refine (HP0.out _).mono ?_
        rintro e w' ⟨rfl,rfl⟩
        cases h0:withinB n0 (-50000) 50000 with
        | false =>
         have HW:=Lh (HB4.out (Or.inl h0))
         clear h0 HG
         go_wp2
         go_ret
         exact ret_one (HW.out) rfl hb
        | true =>
         go_wp2
         go_roundw
         case rel=>exact ⟨1,by omega,by go_num,trivial,fun _=>h0,fun h=>absurd h (by omega)⟩
         case measure=>simp [intOf]
       ·have h0:=g0 (by omega)
        go_wp2_with fail
        refine (HP1.out _).mono ?_
        rintro e w' ⟨rfl,rfl⟩
        cases h1:withinB n1 (-50000) 50000 with
        | false =>
         have HW:=Lh (HB4.out (Or.inr h1))
         clear h0 h1 HG
         go_wp2
         go_ret
         exact ret_one (HW.out) rfl hb
        | true =>
         go_wp2
         go_roundw
         case rel=>exact ⟨2,by omega,by go_num,trivial,fun _=>h0,fun _=>h1⟩
         case measure=>simp [intOf]
       ·have HW:=Lh (HB5.out (by rw [g0 (by omega),g1 (by omega)];rintro (h | h)<;>cases h))
        clear g0 g1 HG
        go_wp2
        go_ret
        exact ret_one (HW.out) rfl hb
end Go.Proofs.YtkjhapbjdjcipaaGreatDoor

namespace Go.Proofs.YtkjhapbjdjcipaaGreatDoor
open Go.ChangeShapes Go.WideShapes Go.ChangeAt Go.RowKit Go.Sort

/-- what the test of waiting reads of a game -/
structure Gam.Wt (x:Gam):Prop where
 racks:x.racks.length=2
 player:0≤x.player∧x.player≤1
end Go.Proofs.YtkjhapbjdjcipaaGreatDoor
