/- Contracts: the program's test of the last action of a game, and of games. Go's tables of unicode and unicode/utf8 hold what is laid (CEnv), internal/bytealg's MaxLen a number (EnvL). · Contracts: the program's test of games. Go's tables of unicode and unicode/utf8 hold what is laid (CEnv), internal/bytealg's MaxLen a number (EnvL); texts fit. -/
import Derived.Test.YtgphkffbbmmmmaaGreatDoorGmK
set_option maxRecDepth 100000
set_option maxHeartbeats 16000000
namespace Go.Proofs.YtgphkffbbmmmmaaGreatDoor
open Go.ChangeShapes Go.WideShapes Go.ChangeAt Go.RowKit Go.Sort

theorem lastFits_any (x:Gam) (p:GaA) (w:World) (ha:x.At p w) (hE:CEnv w)
  (HPF:Hid (∀ W,x.At p W→CEnv W→Calls Tryz.prog 127 #[.agg (gcells x p).toArray] W fun e w'=>e=.returned (.bool x.playOk)∧Below W.heap.size W w')) :
  Calls Tryz.prog 87 #[.agg (gcells x p).toArray] w fun e w'=>e=.returned (.bool x.lastOk)∧Below w.heap.size w w':=by
 have HG:=Lh (GAt.new w x p 37 ha)
 have hb:Below w.heap.size w (w.alloc (.cells (gcells x p).toArray 37)):=(Below.refl _ _).alloc (Nat.le_refl _) _
 have HE:=Lh (hE.kept hb)
 have HSZ:=Lh (size_game x p)
 have HRA:Hid ((w.alloc (.cells (gcells x p).toArray 37)).rangeAt w.heap.size 0 (gcells x p)):=Lh HG.out.cells
 have hgq:Tryz.prog.eqGuardType Tryz.prog.depth 35=false:=by kernel_rfl
 have HB0:Hid (∀ W,(binOp .eql 35 (.agg #[.int .i64 0,.int .i64 x.last.player,.int .i64 x.last.play.row,.int .i64 x.last.play.col,.bool x.last.play.down,.string x.last.play.word,.string x.last.before,.string x.last.drawn,.int .i64 x.last.score,.int .i64 x.last.zeros]) (.agg #[.int .i64 0,.int .i64 0,.int .i64 0,.int .i64 0,.bool false,.string ⟨#[]⟩,.string ⟨#[]⟩,.string ⟨#[]⟩,.int .i64 0,.int .i64 0])).run Tryz.prog W=.ok (.bool (x.last.bare && decide (x.last.player=0))) W):=Lh (fun W=>by
  rw [eql_last,bare_eq,beq_self_eq_true,Bool.true_and,Bool.and_comm]
  rfl)
 have HBV:Hid (∀ k W,(binOp .eql 35 (.agg #[.int .i64 k,.int .i64 x.last.player,.int .i64 x.last.play.row,.int .i64 x.last.play.col,.bool x.last.play.down,.string x.last.play.word,.string x.last.before,.string x.last.drawn,.int .i64 x.last.score,.int .i64 x.last.zeros]) (.agg #[.int .i64 k,.int .i64 x.last.player,.int .i64 0,.int .i64 0,.bool false,.string ⟨#[]⟩,.string ⟨#[]⟩,.string ⟨#[]⟩,.int .i64 0,.int .i64 0])).run Tryz.prog W=.ok (.bool x.last.bare) W):=Lh (fun k W=>by
  rw [eql_last,bare_eq,beq_self_eq_true,beq_self_eq_true,Bool.true_and,Bool.true_and])
 have HLO:Hid (x.lastOk=if x.last.kind=0 then x.last.bare && decide (x.last.player=0) else if x.last.kind=2 then x.last.bare && withinB x.last.player 0 1 else if x.last.kind=3 then x.last.bare && withinB x.last.player 0 1 else if x.last.kind=1 then x.playOk else false):=Lh rfl
 have HWI:Hid (∀ W,Calls Tryz.prog 30 #[.int .i64 x.last.player,.int .i64 0,.int .i64 1] W fun e w'=>e=.returned (.bool (withinB x.last.player 0 1))∧W=w'):=Lh (fun W=>within_any _ _ _ W)
 clear ha hE
 generalize x.lastOk=ans at *
 generalize x.last.bare=bv at *
 obtain ⟨cs,hcs⟩:∃ cs,cs=gcells x p:=⟨_,rfl⟩
 rw [← hcs]
 rw [← hcs] at HG hb HE HSZ HRA HPF
 clear hcs
 go_enter Tryz.func87,Tryz.ntmps87
 go_upto_region 1 with fail
 generalize w.alloc (.cells cs.toArray 37)=w1 at *
 by_cases h0:x.last.kind=0
 ·have HN:Hid (ans=(bv && decide (x.last.player=0))):=Lh (by rw [HLO.out,if_pos h0])
  have c19:=HG.out.cell (i:=19) rfl
  have c20:=HG.out.cell (i:=20) rfl
  have c21:=HG.out.cell (i:=21) rfl
  have c22:=HG.out.cell (i:=22) rfl
  have c23:=HG.out.cell (i:=23) rfl
  have c24:=HG.out.cell (i:=24) rfl
  have c25:=HG.out.cell (i:=25) rfl
  have c26:=HG.out.cell (i:=26) rfl
  have c27:=HG.out.cell (i:=27) rfl
  have c28:=HG.out.cell (i:=28) rfl
  rw [h0] at c19
  clear HLO
  have hq:=HB0.out
  generalize (bv && decide (x.last.player=0))=rv at *
  go_wp2
  go_ret
  exact ⟨ret_bool HN.out.symm,hb⟩
 ·by_cases h2:x.last.kind=2∨x.last.kind=3
  ·have HN:Hid (ans=(bv && withinB x.last.player 0 1)):=Lh (by
    rw [HLO.out,if_neg h0]
    rcases h2 with h2 | h2
    ·rw [if_pos h2]
    ·rw [if_neg (by omega),if_pos h2])
   rcases h2 with h2 | h2
   all_goals
    have c19:=HG.out.cell (i:=19) rfl
    have c20:=HG.out.cell (i:=20) rfl
    have c21:=HG.out.cell (i:=21) rfl
    have c22:=HG.out.cell (i:=22) rfl
    have c23:=HG.out.cell (i:=23) rfl
    have c24:=HG.out.cell (i:=24) rfl
    have c25:=HG.out.cell (i:=25) rfl
    have c26:=HG.out.cell (i:=26) rfl
    have c27:=HG.out.cell (i:=27) rfl
    have c28:=HG.out.cell (i:=28) rfl
    rw [h2] at c19
    have hq:=HBV.out x.last.kind
    rw [h2] at hq
    have H2:=Lh h2
    clear HLO h2 h0
    generalize withinB x.last.player 0 1=iv at *
    go_wp2_with fail
    refine (HWI.out _).mono ?_
    rintro e w' ⟨rfl,rfl⟩
    cases iv with
    | false =>
     go_wp2
     go_ret
     exact ⟨ret_bool (by rw [HN.out,Bool.and_false]),hb⟩
    | true =>
     go_wp2
     go_ret
     exact ⟨ret_bool (by rw [HN.out,Bool.and_true]),hb⟩
  ·by_cases h1:x.last.kind=1
   ·have HN:Hid (ans=x.playOk):=Lh (by rw [HLO.out,if_neg h0,if_neg (by omega),if_neg (by omega),if_pos h1])
    have c19:=HG.out.cell (i:=19) rfl
    rw [h1] at c19
    have rA:=HRA.out
    clear HLO
    go_upto_region 8 with fail
    refine wp_region_list ?_
    refine wpList_load_mid rfl 37 _ rfl w.heap.size 0 rfl cs _ rA Tryz.underlying37 rfl HSZ.out ?_
    clear rA c19
    go_wp2_with fail
    refine (HPF.out _ HG.out.at_ HE.out).mono ?_
    rintro e w3 ⟨rfl,hd⟩
    replace hb:=hb.trans (hd.mono hb.size)
    clear hd
    go_wp2
    go_ret
    exact ⟨ret_bool HN.out.symm,hb⟩
   ·have HN:Hid (ans=false):=Lh (by rw [HLO.out,if_neg h0,if_neg (by omega),if_neg (by omega),if_neg h1])
    have k2:¬ x.last.kind=2:=by omega
    have k3:¬ x.last.kind=3:=by omega
    have c19:=HG.out.cell (i:=19) rfl
    clear HLO
    go_wp2
    go_ret
    exact ⟨ret_bool HN.out.symm,hb⟩
end Go.Proofs.YtgphkffbbmmmmaaGreatDoor

namespace Go.Proofs.YtgphkffbbmmmmaaGreatDoor
open Go.ChangeShapes Go.WideShapes Go.ChangeAt Go.RowKit Go.Sort

/-- a whole load of a guarded operation -/
theorem wpList_load_midG {P:Program} {ops:Array Oper} {rest:List Oper} {op:Oper} {a:Act} {w:World} {Q:Exit→Act→World→Prop} (hw:Region.wanted op (yielded ops a.tmps)=true) (ty:TypeId) (x:Operand) (ho:op.op=.load ty x)
  (b o:Nat) (hx:a.eval x=.pointer (some ⟨b,o,none⟩)) (cs:List Value) (d:TypeDesc) (hc:w.rangeAt b o cs)
  (hu:P.underlying ty=some d) (hd:d.isRow=true) (hi:(P.info? ty).map (·.size)=some cs.length)
  (h:wpList P ops Q rest (a.put op.dst (.agg cs.toArray)) w):wpList P ops Q (op :: rest) a w :=
 wpList_step fun K hK=>by
  rw [if_pos hw]
  exact wp_load_mid ty x ho b o hx cs d hc hu hd hi (hK _ _ h)
theorem implValidGame_any (x:Gam) (p:GaA) (w:World) (ha:x.At p w) (hf:x.fit) (htz:x.setup.tiles.letters.size≤1048576) (hwz:x.last.play.word.size≤1048576) (hE:CEnv w) (hL:EnvL w) :
  Calls Tryz.prog 46 #[.agg (gcells x p).toArray] w fun e w'=>e=.returned (.bool x.ok)∧Below w.heap.size w w':=by
 have HG:=Lh (GAt.new w x p 37 ha)
 have hb:Below w.heap.size w (w.alloc (.cells (gcells x p).toArray 37)):=(Below.refl _ _).alloc (Nat.le_refl _) _
 have HE0:=Lh hE
 have HEL0:=Lh hL
 have HF:=Lh hf
 have HSZ:=Lh (size_game x p)
 have HSS:=Lh (size_setup x.setup p.setup)
 have HS1C:=Lh (scells_one x.setup p.setup)
 have HSL:Hid ((scells x.setup p.setup).length=10):=Lh rfl
 have rS:=HG.out.scells
 have HV5:Hid ((scells x.setup p.setup)[5]?=some (.int .i64 x.setup.board.size)):=Lh rfl
 have HV6:Hid ((scells x.setup p.setup)[6]?=some (.string x.setup.board.premium)):=Lh rfl
 have HVS:Hid (∀ W,x.setup.At p.setup W→EnvL W→Calls Tryz.prog 71 #[.agg (scells x.setup p.setup).toArray] W fun e w'=>e=.returned (.bool x.setup.ok)∧Below W.heap.size W w'):=Lh (fun W h h2=>ValidSetup_any x.setup p.setup W h HF.out.1 htz h2)
 have HVB:Hid (∀ W,Calls Tryz.prog 84 #[.agg #[.int .i64 x.board.size,.string x.board.premium,.string x.board.cells]] W fun e w'=>e=.returned (.bool x.board.ok)∧Below W.heap.size W w'):=Lh (fun W=>ValidBoard_any x.board W HF.out.2.1)
 have HBG:Hid (∀ W,Calls Tryz.prog 72 #[.string x.bag] W fun e w'=>e=.returned (.bool (bagOk x.bag.data.toList))∧W=w'):=Lh (fun W=>ValidBag_any x.bag W HF.out.2.2.1)
 have HTF:Hid (x.board.ok=true→x.Sided→bagOk x.bag.data.toList=true→∀ W,x.At p W→EnvL W→Calls Tryz.prog 86 #[.agg (gcells x p).toArray] W fun e w'=>e=.returned (.bool x.fits)∧Below W.heap.size W w'):=Lh (fun h1 h2 h3 W h h4=>tilesFit_any x p W h h1 h2 h3 h4)
 have HLF:Hid (x.Sided→∀ W,x.At p W→CEnv W→Calls Tryz.prog 87 #[.agg (gcells x p).toArray] W fun e w'=>e=.returned (.bool x.lastOk)∧Below W.heap.size W w'):=Lh (fun hs W h h2=>lastFits_any x p W h h2 (Lh fun W h h2=>playFits_any x p W h HF.out hs hwz h2))
 have HNH:=Lh (fun h=>Gam.no_head (x:=x) h)
 have HNL:=Lh (fun h=>Gam.no_list (x:=x) h)
 have HNS:=Lh (fun k (hk:k < 2) h=>Gam.no_side (x:=x) (k:=k) hk h)
 have HNZ:=Lh (fun h=>Gam.no_zeros (x:=x) h)
 have HNO:=Lh (fun h=>Gam.no_over (x:=x) h)
 have HNF:=Lh (fun h=>Gam.no_fits (x:=x) h)
 have HYE:=Lh (fun a b c d e f g=>Gam.yes (x:=x) a b c d e f g)
 clear ha hf htz hwz hE hL
 generalize hans:x.ok=ans at *
 clear hans
 generalize scells x.setup p.setup=sc at *
 obtain ⟨cs,hcs⟩:∃ cs,cs=gcells x p:=⟨_,rfl⟩
 rw [← hcs]
 rw [← hcs] at HG hb HSZ HTF HLF rS
 have HCS:=Lh hcs
 clear hcs
 go_enter Tryz.func46,Tryz.ntmps46
 go_upto_region 1 with fail
 generalize w.alloc (.cells cs.toArray 37)=w1 at *
 have V6:=VarAt.new w1 31 szero
 obtain ⟨o6,k6⟩:=V6.put sc (by rw [HSL.out];rfl)
 have tR:=V6.there (n:=sc.length) (by rw [HSL.out];rfl)
 have hd0:Below w1.heap.size w1 ((w1.alloc (.cells szero.toArray 31)).setCells w1.heap.size 0 sc):=((Below.refl _ _).alloc (Nat.le_refl _) _).grown k6 (by simp) (fun q h=>by cases h;exact Nat.le_refl _)
 have v5:=o6.cell HV5.out
 have v6:=o6.cell HV6.out
 have HRS:=Lh o6.range
 clear V6 o6 k6
 go_upto_region 2 with (first | (refine wpList_load_mid rfl 31 _ rfl w.heap.size 0 rfl sc _ rS Tryz.underlying31 rfl HSS.out ?_) | (refine wpList_store_mid rfl 31 _ _ rfl w1.heap.size 0 sc.toArray rfl rfl tR HSS.out (all_oneCell_toArray HS1C.out) ?_))
 clear tR rS
 change Code.wp _ _ _ _ ((w1.alloc (.cells szero.toArray 31)).setCells w1.heap.size 0 sc)
 generalize (w1.alloc (.cells szero.toArray 31)).setCells w1.heap.size 0 sc=wZ at *
 replace hb:=hb.trans (hd0.mono hb.size)
 replace HG:=Lh (HG.out.kept hd0)
 clear hd0
 have HV5':=Lh v5
 have HV6':=Lh v6
 clear v5 v6
 cases h1:x.setup.ok with
 | false =>
  have HN:=Lh (HNH.out (head_no1 h1))
  rw [h1] at HVS
  clear h1
  have v5:=HV5'.out
  have v6:=HV6'.out
  have rS:=HRS.out
  refine wp_region_list ?_
  refine wpList_load_mid rfl 31 _ rfl w1.heap.size 0 rfl sc _ rS Tryz.underlying31 rfl HSS.out ?_
  clear rS
  go_wp2_with fail
  refine (HVS.out _ HG.out.at_.1 (HEL0.out.kept hb)).mono ?_
  rintro e w' ⟨rfl,hd⟩
  replace hb:=hb.trans (hd.mono hb.size)
  replace v5:=cell_kept v5 hd
  replace v6:=cell_kept v6 hd
  replace HG:=Lh (HG.out.kept hd)
  clear hd
  have c10:=HG.out.cell (i:=10) rfl
  have c11:=HG.out.cell (i:=11) rfl
  have c12:=HG.out.cell (i:=12) rfl
  have c13:=HG.out.cell (i:=13) rfl
  clear v5 v6 c10 c11 c12 c13
  go_wp2
  go_ret
  exact ⟨ret_bool HN.out.symm,hb⟩
 | true =>
  have HS:=Lh h1
  rw [h1] at HVS
  clear h1
  have v5:=HV5'.out
  have v6:=HV6'.out
  have rS:=HRS.out
  refine wp_region_list ?_
  refine wpList_load_mid rfl 31 _ rfl w1.heap.size 0 rfl sc _ rS Tryz.underlying31 rfl HSS.out ?_
  clear rS
  go_wp2_with fail
  refine (HVS.out _ HG.out.at_.1 (HEL0.out.kept hb)).mono ?_
  rintro e w' ⟨rfl,hd⟩
  replace hb:=hb.trans (hd.mono hb.size)
  replace v5:=cell_kept v5 hd
  replace v6:=cell_kept v6 hd
  replace HG:=Lh (HG.out.kept hd)
  clear hd
  have c10:=HG.out.cell (i:=10) rfl
  have c11:=HG.out.cell (i:=11) rfl
  have c12:=HG.out.cell (i:=12) rfl
  have c13:=HG.out.cell (i:=13) rfl
  clear HV5' HV6' HVS
  cases h2:x.board.ok with
  | false =>
   have HN:=Lh (HNH.out (head_no2 h2))
   rw [h2] at HVB
   clear h2
   go_wp2_with fail
   refine (HVB.out _).mono ?_
   rintro e w' ⟨rfl,hd⟩
   replace hb:=hb.trans (hd.mono hb.size)
   replace v5:=cell_kept v5 hd
   replace v6:=cell_kept v6 hd
   replace c10:=cell_kept c10 hd
   replace c11:=cell_kept c11 hd
   replace c12:=cell_kept c12 hd
   replace c13:=cell_kept c13 hd
   replace HG:=Lh (HG.out.kept hd)
   clear hd
   go_wp2
   go_ret
   exact ⟨ret_bool HN.out.symm,hb⟩
  | true =>
   have HB:=Lh h2
   rw [h2] at HVB
   clear h2
   by_cases h3:x.board.size=x.setup.board.size
   case neg =>
    have HN:=Lh (HNH.out (head_no3 h3))
    have e3:(x.board.size != x.setup.board.size)=true:=by rw [bne_iff_ne];exact h3
    clear h3
    go_wp2_with fail
    refine (HVB.out _).mono ?_
    rintro e w' ⟨rfl,hd⟩
    replace hb:=hb.trans (hd.mono hb.size)
    replace v5:=cell_kept v5 hd
    replace v6:=cell_kept v6 hd
    replace c10:=cell_kept c10 hd
    replace c11:=cell_kept c11 hd
    replace c12:=cell_kept c12 hd
    replace c13:=cell_kept c13 hd
    replace HG:=Lh (HG.out.kept hd)
    clear hd
    go_wp2
    go_ret
    exact ⟨ret_bool HN.out.symm,hb⟩
   case pos =>
    have H3:=Lh h3
    have e3:(x.board.size != x.setup.board.size)=false:=by rw [h3];simp
    clear h3
    by_cases h4:x.board.premium=x.setup.board.premium
    case neg =>
     have HN:=Lh (HNH.out (head_no4 h4))
     have e4:(x.board.premium.toList == x.setup.board.premium.toList)=false:=by rw [toList_beq,decide_eq_false h4]
     clear h4
     go_wp2_with fail
     refine (HVB.out _).mono ?_
     rintro e w' ⟨rfl,hd⟩
     replace hb:=hb.trans (hd.mono hb.size)
     replace v5:=cell_kept v5 hd
     replace v6:=cell_kept v6 hd
     replace c10:=cell_kept c10 hd
     replace c11:=cell_kept c11 hd
     replace c12:=cell_kept c12 hd
     replace c13:=cell_kept c13 hd
     replace HG:=Lh (HG.out.kept hd)
     clear hd
     go_wp2
     go_ret
     exact ⟨ret_bool HN.out.symm,hb⟩
    case pos =>
     have H4:=Lh h4
     have e4:(x.board.premium.toList == x.setup.board.premium.toList)=true:=by rw [toList_beq,decide_eq_true h4]
     clear h4
     go_wp2_with fail
     refine (HVB.out _).mono ?_
     rintro e w' ⟨rfl,hd⟩
     replace hb:=hb.trans (hd.mono hb.size)
     replace v5:=cell_kept v5 hd
     replace v6:=cell_kept v6 hd
     replace c10:=cell_kept c10 hd
     replace c11:=cell_kept c11 hd
     replace c12:=cell_kept c12 hd
     replace c13:=cell_kept c13 hd
     replace HG:=Lh (HG.out.kept hd)
     clear hd
     go_wp2_with fail
     refine (HBG.out _).mono ?_
     rintro e w' ⟨rfl,rfl⟩
     cases h5:bagOk x.bag.data.toList with
     | false =>
      have HN:=Lh (HNH.out (head_no5 h5))
      clear h5
      go_wp2
      go_ret
      exact ⟨ret_bool HN.out.symm,hb⟩
     | true =>
      have HHO:=Lh (head_yes HS.out HB.out H3.out H4.out h5)
      have H5:=Lh h5
      clear h5 H3 H4
      go_upto_region 4 with fail
      clear HVB HBG e3 e4 HNH v5 v6 c10 c11 c12 c13
      have c14:=HG.out.cell (i:=14) rfl
      have c15:=HG.out.cell (i:=15) rfl
      have c16:=HG.out.cell (i:=16) rfl
      have c17:=HG.out.cell (i:=17) rfl
      by_cases l1:x.racks.length=2
      case neg =>
       have HN:=Lh (HNL.out (list_no1 l1))
       have f1:((x.racks.length:Int) != 2)=true:=by rw [bne_iff_ne];omega
       clear l1
       go_wp2
       go_ret
       exact ⟨ret_bool HN.out.symm,hb⟩
      case pos =>
       have L1:=Lh l1
       have f1:((x.racks.length:Int) != 2)=false:=by rw [l1];rfl
       clear l1
       by_cases l2:x.scores.length=2
       case neg =>
        have HN:=Lh (HNL.out (list_no2 l2))
        have f2:((x.scores.length:Int) != 2)=true:=by rw [bne_iff_ne];omega
        clear l2
        go_wp2
        go_ret
        exact ⟨ret_bool HN.out.symm,hb⟩
       case pos =>
        have L2:=Lh l2
        have f2:((x.scores.length:Int) != 2)=false:=by rw [l2];rfl
        clear l2
        by_cases l3:x.clocks.length=2
        case neg =>
         have HN:=Lh (HNL.out (list_no3 l3))
         have f3:((x.clocks.length:Int) != 2)=true:=by rw [bne_iff_ne];omega
         clear l3
         go_wp2
         go_ret
         exact ⟨ret_bool HN.out.symm,hb⟩
        case pos =>
         have L3:=Lh l3
         have f3:((x.clocks.length:Int) != 2)=false:=by rw [l3];rfl
         clear l3
         have HIP:Hid (∀ W,Calls Tryz.prog 30 #[.int .i64 x.player,.int .i64 0,.int .i64 1] W fun e w'=>e=.returned (.bool (withinB x.player 0 1))∧W=w'):=Lh (fun W=>within_any _ _ _ W)
         cases l4:withinB x.player 0 1 with
         | false =>
          have HN:=Lh (HNL.out (list_no4 l4))
          rw [l4] at HIP
          clear l4
          go_wp2_with fail
          refine (HIP.out _).mono ?_
          rintro e w' ⟨rfl,rfl⟩
          go_wp2
          go_ret
          exact ⟨ret_bool HN.out.symm,hb⟩
         | true =>
          have L4:=Lh l4
          rw [l4] at HIP
          clear l4
          have HLO:=Lh (list_yes L1.out L2.out L3.out L4.out)
          go_wp2_with fail
          refine (HIP.out _).mono ?_
          rintro e w' ⟨rfl,rfl⟩
          clear HNL
          go_upto_region 6 with fail
          clear HIP c14 c15 c16 c17 f1 f2 f3
          have c14:=HG.out.cell (i:=14) rfl
          rw [L1.out] at c14
          go_upto_region 7 with fail
          clear c14
          go_loopw [4,65] (fun _ iv wr=>∃ k:Nat,k≤2∧iv=.int .i64 k∧Hid (∀ j,j < k→x.sideOk j=true)∧Hid (GAt wr w.heap.size x p)∧Below w.heap.size w wr) (fun _ iv _=>2 - (intOf iv).toNat)
          case atStart=>exact ⟨0,Nat.zero_le _,rfl,Lh (fun j h=>absurd h (Nat.not_lt_zero _)),HG,hb⟩
          case round =>
           clear HG hb
           obtain ⟨k,hk,rfl,HP,HG,hb⟩:=hrel
           by_cases hk2:k < 2
           ·obtain ⟨rb,ro,hra,hrc⟩:=(HG.out.at_.2.1).open (show k < x.racks.length by have:=L1.out;omega)
            have rc:wr.cell? ⟨rb,ro+k,none⟩=some (.string (x.rack k)):=words_cell hrc (show k < x.racks.length by have:=L1.out;omega)
            obtain ⟨sb,so,hsa,sc'⟩:=num_cell (HG.out.at_.2.2.1) (show k < x.scores.length by have:=L2.out;omega)
            obtain ⟨cb,co,hca,cc⟩:=num_cell (HG.out.at_.2.2.2) (show k < x.clocks.length by have:=L3.out;omega)
            have c14:=HG.out.cell (i:=14) rfl
            have c15:=HG.out.cell (i:=15) rfl
            have c16:=HG.out.cell (i:=16) rfl
            rw [hra,L1.out] at c14
            rw [hsa,L2.out] at c15
            rw [hca,L3.out] at c16
            have hki:(k:Int) < 2:=by omega
            have HNk:=Lh (fun h=>HNS.out k hk2 h)
            have HRK:Hid (∀ W,Calls Tryz.prog 85 #[.string (x.rack k)] W fun e w'=>e=.returned (.bool (rackOk (x.rack k).data.toList))∧Drew W w'):=Lh (fun W=>ValidRack_any (x.rack k) W (by
             have h1:k < x.racks.length:=by have:=L1.out;omega
             have h2:=HF.out.2.2.2.1.2 x.racks[k] (List.getElem_mem h1)
             unfold Gam.rack
             rw [List.getD_eq_getElem?_getD,List.getElem?_eq_getElem h1]
             exact h2))
            have HIS:Hid (∀ W,Calls Tryz.prog 30 #[.int .i64 (x.scores.getD k 0),.int .i64 (-100000),.int .i64 100000] W fun e w'=>e=.returned (.bool (withinB (x.scores.getD k 0) (-100000) 100000))∧W=w'):=Lh (fun W=>within_any _ _ _ W)
            have HIC:Hid (∀ W,Calls Tryz.prog 30 #[.int .i64 (x.clocks.getD k 0),.int .i64 (-36000),.int .i64 36000] W fun e w'=>e=.returned (.bool (withinB (x.clocks.getD k 0) (-36000) 36000))∧W=w'):=Lh (fun W=>within_any _ _ _ W)
            clear hrc hra hsa hca
            cases s1:rackOk (x.rack k).data.toList with
            | false =>
             have HN:=Lh (HNk.out (side_no1 s1))
             rw [s1] at HRK
             clear s1
             go_wp2_with fail
             refine (HRK.out _).mono ?_
             rintro e w3 ⟨rfl,hdq⟩
             have hd:=hdq.bels
             replace hb:=hb.trans (hd.mono hb.size)
             clear hd hdq rc sc' cc c14 c15 c16
             go_wp2
             go_ret
             exact ⟨ret_bool HN.out.symm,hb⟩
            | true =>
             have HS1:=Lh s1
             rw [s1] at HRK
             clear s1
             cases s2:withinB (x.scores.getD k 0) (-100000) 100000 with
             | false =>
              have HN:=Lh (HNk.out (side_no2 s2))
              rw [s2] at HIS
              clear s2
              go_wp2_with fail
              refine (HRK.out _).mono ?_
              rintro e w3 ⟨rfl,hdq⟩
              have hd:=hdq.bels
              clear hdq
              replace hb:=hb.trans (hd.mono hb.size)
              replace rc:=cell_kept rc hd
              replace sc':=cell_kept sc' hd
              replace cc:=cell_kept cc hd
              replace c14:=cell_kept c14 hd
              replace c15:=cell_kept c15 hd
              replace c16:=cell_kept c16 hd
              clear hd
              go_wp2_with fail
              refine (HIS.out _).mono ?_
              rintro e w' ⟨rfl,rfl⟩
              go_wp2
              go_ret
              exact ⟨ret_bool HN.out.symm,hb⟩
             | true =>
              have HS2:=Lh s2
              rw [s2] at HIS
              clear s2
              cases s3:withinB (x.clocks.getD k 0) (-36000) 36000 with
              | false =>
               have HN:=Lh (HNk.out (side_no3 s3))
               rw [s3] at HIC
               clear s3
               go_wp2_with fail
               refine (HRK.out _).mono ?_
               rintro e w3 ⟨rfl,hdq⟩
               have hd:=hdq.bels
               clear hdq
               replace hb:=hb.trans (hd.mono hb.size)
               replace rc:=cell_kept rc hd
               replace sc':=cell_kept sc' hd
               replace cc:=cell_kept cc hd
               replace c14:=cell_kept c14 hd
               replace c15:=cell_kept c15 hd
               replace c16:=cell_kept c16 hd
               clear hd
               go_wp2_with fail
               refine (HIS.out _).mono ?_
               rintro e w' ⟨rfl,rfl⟩
               go_wp2_with fail
               refine (HIC.out _).mono ?_
               rintro e w' ⟨rfl,rfl⟩
               go_wp2
               go_ret
               exact ⟨ret_bool HN.out.symm,hb⟩
              | true =>
               have HPN:Hid (∀ j,j < k+1→x.sideOk j=true):=Lh (fun j hj=>by
                by_cases e:j=k
                ·subst e;exact side_yes HS1.out HS2.out s3
                ·exact HP.out j (by omega))
               rw [s3] at HIC
               clear s3 HP
               go_wp2_with fail
               refine (HRK.out _).mono ?_
               rintro e w3 ⟨rfl,hdq⟩
               have hd:=hdq.bels
               clear hdq
               replace hb:=hb.trans (hd.mono hb.size)
               replace rc:=cell_kept rc hd
               replace sc':=cell_kept sc' hd
               replace cc:=cell_kept cc hd
               replace c14:=cell_kept c14 hd
               replace c15:=cell_kept c15 hd
               replace c16:=cell_kept c16 hd
               replace HG:=Lh (HG.out.kept hd)
               clear hd
               go_wp2_with fail
               refine (HIS.out _).mono ?_
               rintro e w' ⟨rfl,rfl⟩
               go_wp2_with fail
               refine (HIC.out _).mono ?_
               rintro e w' ⟨rfl,rfl⟩
               clear rc sc' cc c14 c15 c16
               go_wp2
               go_roundw
               case rel=>exact ⟨k+1,by omega,by go_num,HPN,HG,hb⟩
               case measure=>simp [intOf];omega
           ·obtain rfl:k=2:=by omega
            have hs0:=HP.out 0 (by omega)
            have hs1:=HP.out 1 (by omega)
            have HS01:=Lh (And.intro hs0 hs1)
            have hsd:x.Sided:=⟨(Stp.good HS.out).tiles,(within_iff.1 L4.out).1,(within_iff.1 L4.out).2,L1.out,fun j hj=>side_rack (HP.out j hj)⟩
            replace HTF:=Lh (HTF.out HB.out hsd H5.out)
            replace HLF:=Lh (HLF.out hsd)
            have HIZ:Hid (∀ W,Calls Tryz.prog 30 #[.int .i64 x.zeros,.int .i64 0,.int .i64 6] W fun e w'=>e=.returned (.bool (withinB x.zeros 0 6))∧W=w'):=Lh (fun W=>within_any _ _ _ W)
            have c18:=HG.out.cell (i:=18) rfl
            have c29:=HG.out.cell (i:=29) rfl
            clear hs0 hs1 hsd HP HNS
            cases l5:withinB x.zeros 0 6 with
            | false =>
             have HN:=Lh (HNZ.out l5)
             rw [l5] at HIZ
             clear l5
             go_wp2_with fail
             refine (HIZ.out _).mono ?_
             rintro e w' ⟨rfl,rfl⟩
             go_wp2
             go_ret
             exact ⟨ret_bool HN.out.symm,hb⟩
            | true =>
             have L5:=Lh l5
             rw [l5] at HIZ
             clear l5
             cases l6:(x.over || decide (x.zeros < 6)) with
             | false =>
              have HN:=Lh (HNO.out l6)
              rw [Bool.or_eq_false_iff,decide_eq_false_iff_not] at l6
              obtain ⟨l7,l8⟩:=l6
              have l9:=(within_iff.1 L5.out).2
              have l10:x.zeros=6:=by omega
              clear l8 l9
              rw [l10] at c18 HIZ
              rw [l7] at c29
              clear l7 l10
              go_wp2_with fail
              refine (HIZ.out _).mono ?_
              rintro e w' ⟨rfl,rfl⟩
              go_wp2
              go_ret
              exact ⟨ret_bool HN.out.symm,hb⟩
             | true =>
              have L6:=Lh l6
              have HEX:Hid (x.over=true∨(x.over=false∧¬ x.zeros=6)):=Lh (by
               rw [Bool.or_eq_true,decide_eq_true_eq] at l6
               cases ho:x.over with
               | true=>exact .inl rfl
               | false=>rw [ho] at l6;refine .inr ⟨rfl,?_⟩;rcases l6 with h | h;cases h;omega)
              clear l6
              have HANS:=Lh (fun hft=>HYE.out HHO.out HLO.out HS01.out.1 HS01.out.2 L5.out L6.out hft)
              clear HNO HNZ HYE
              go_wp2_with fail
              refine (HIZ.out _).mono ?_
              rintro e w' ⟨rfl,rfl⟩
              by_cases hz:x.zeros=6
              ·have ho:x.over=true:=by
                rcases HEX.out with h | ⟨_,h⟩
                ·exact h
                ·exact absurd hz h
               rw [hz] at c18
               rw [ho] at c29
               have HZO:=Lh (And.intro hz ho)
               clear hz ho
               go_upto_region 14 with fail
               clear c18 c29
               have rA:wr.rangeAt w.heap.size 0 cs:=by rw [HCS.out];exact HG.out.cells
               refine wp_region_list ?_
               refine wpList_load_mid rfl 37 _ rfl w.heap.size 0 rfl cs _ rA Tryz.underlying37 rfl HSZ.out ?_
               clear rA
               cases hft:x.fits with
               | false =>
                have HN:=Lh (HNF.out hft)
                rw [hft] at HTF
                clear hft
                go_wp2_with fail
                refine (HTF.out _ HG.out.at_ (HEL0.out.kept hb)).mono ?_
                rintro e w' ⟨rfl,hd⟩
                replace hb:=hb.trans (hd.mono hb.size)
                replace HG:=Lh (HG.out.kept hd)
                clear hd
                go_wp2
                go_ret
                exact ⟨ret_bool HN.out.symm,hb⟩
               | true =>
                have HN:=Lh (HANS.out hft)
                rw [hft] at HTF
                clear hft
                go_wp2_with fail
                refine (HTF.out _ HG.out.at_ (HEL0.out.kept hb)).mono ?_
                rintro e w' ⟨rfl,hd⟩
                replace hb:=hb.trans (hd.mono hb.size)
                replace HG:=Lh (HG.out.kept hd)
                clear hd
                have rA:w'.rangeAt w.heap.size 0 cs:=by rw [HCS.out];exact HG.out.cells
                go_upto_region 15 with (refine wpList_load_midG (by simp [go_sem]) 37 _ rfl w.heap.size 0 rfl cs _ rA Tryz.underlying37 rfl HSZ.out ?_)
                clear rA
                go_wp2_with fail
                refine (HLF.out _ HG.out.at_ (HE0.out.kept hb)).mono ?_
                rintro e w9 ⟨rfl,hd⟩
                replace hb:=hb.trans (hd.mono hb.size)
                replace HG:=Lh (HG.out.kept hd)
                clear hd
                go_wp2
                go_ret
                exact ⟨ret_bool HN.out.symm,hb⟩
              ·go_upto_region 14 with fail
               clear c18 c29
               have rA:wr.rangeAt w.heap.size 0 cs:=by rw [HCS.out];exact HG.out.cells
               refine wp_region_list ?_
               refine wpList_load_mid rfl 37 _ rfl w.heap.size 0 rfl cs _ rA Tryz.underlying37 rfl HSZ.out ?_
               clear rA
               cases hft:x.fits with
               | false =>
                have HN:=Lh (HNF.out hft)
                rw [hft] at HTF
                clear hft
                go_wp2_with fail
                refine (HTF.out _ HG.out.at_ (HEL0.out.kept hb)).mono ?_
                rintro e w' ⟨rfl,hd⟩
                replace hb:=hb.trans (hd.mono hb.size)
                replace HG:=Lh (HG.out.kept hd)
                clear hd
                go_wp2
                go_ret
                exact ⟨ret_bool HN.out.symm,hb⟩
               | true =>
                have HN:=Lh (HANS.out hft)
                rw [hft] at HTF
                clear hft
                go_wp2_with fail
                refine (HTF.out _ HG.out.at_ (HEL0.out.kept hb)).mono ?_
                rintro e w' ⟨rfl,hd⟩
                replace hb:=hb.trans (hd.mono hb.size)
                replace HG:=Lh (HG.out.kept hd)
                clear hd
                have rA:w'.rangeAt w.heap.size 0 cs:=by rw [HCS.out];exact HG.out.cells
                go_upto_region 15 with (refine wpList_load_midG (by simp [go_sem]) 37 _ rfl w.heap.size 0 rfl cs _ rA Tryz.underlying37 rfl HSZ.out ?_)
                clear rA
                go_wp2_with fail
                refine (HLF.out _ HG.out.at_ (HE0.out.kept hb)).mono ?_
                rintro e w9 ⟨rfl,hd⟩
                replace hb:=hb.trans (hd.mono hb.size)
                replace HG:=Lh (HG.out.kept hd)
                clear hd
                go_wp2
                go_ret
                exact ⟨ret_bool HN.out.symm,hb⟩
end Go.Proofs.YtgphkffbbmmmmaaGreatDoor
