/- Contracts: the reference's test of games. No condition but that lengths fit an int. · Plain: a game at its start is valid. No condition. -/
import Derived.Test.YtgphkffbbmmmmaaGreatDoorGmQ
import Derived.Test.YtgphkffbbmmmmaaGreatDoorMkQ
set_option maxRecDepth 100000
set_option maxHeartbeats 16000000
namespace Go.Proofs.YtgphkffbbmmmmaaGreatDoor
open Go.ChangeShapes Go.WideShapes Go.ChangeAt Go.RowKit Go.Sort

/-! ### Plain -/
theorem letters_let {b:Brd} (h:b.ok=true):(lettersL b.cells.data.toList).all (fun c=>letB c.toNat)=true:=by
 obtain ⟨n,hg⟩:=Brd.good h
 rw [List.all_eq_true]
 intro c hc
 unfold lettersL at hc
 obtain ⟨h1,h2⟩:=List.mem_filter.1 hc
 have h3:=List.all_eq_true.1 hg.okC c h1
 have h4:((c.toNat:Int) == 46)=false:=by
  rw [beq_eq_false_iff_ne]
  intro e
  have:c=46:=UInt8.toNat_inj.1 (by have e2:(46:UInt8).toNat=46:=rfl;omega)
  rw [this] at h2
  simp at h2
 unfold cellB at h3
 rw [h4] at h3
 unfold letB
 simpa using h3
theorem lets_tiles {x:Gam} (h:x.board.ok=true):x.lets.all tileB=true:=by
 unfold Gam.lets
 rw [List.all_map,List.all_eq_true]
 intro c hc
 exact tile_of_let ((List.all_eq_true.1 (letters_let h)) c hc)
/-- all tiles of a game, as the reference joins them -/
def Gam.joinS (x:Gam):List UInt8:=srtL x.lets++(x.rack 0).data.toList++(x.rack 1).data.toList++x.bag.data.toList
def Gam.joinI (x:Gam):List UInt8:=x.bag.data.toList++(x.rack 0).data.toList++(x.rack 1).data.toList++srtL x.lets
theorem join_perm (x:Gam):x.joinS.Perm x.joinI:=by
 unfold Gam.joinS Gam.joinI
 rw [List.append_assoc,List.append_assoc,List.append_assoc,List.append_assoc]
 refine List.perm_append_comm.trans ?_
 rw [List.append_assoc,List.append_assoc]
 generalize (x.rack 0).data.toList=a
 generalize (x.rack 1).data.toList=b
 generalize x.bag.data.toList=c
 generalize srtL x.lets=d
 -- a++(b++(c++d)) ~ c++(a++(b++d))
 have h1:(a++(b++(c++d))).Perm ((a++b)++(c++d)):=by rw [List.append_assoc]
 have h2:((a++b)++(c++d)).Perm (c++((a++b)++d)):=by
  have:=(List.perm_append_comm (l₁:=a++b) (l₂:=c)).append_right d
  simp only [List.append_assoc] at this ⊢
  exact this
 exact h1.trans (h2.trans (by rw [List.append_assoc]))
theorem fits_join (x:Gam):x.fits=decide (srtL x.joinS=allL x.setup.tiles):=by
 unfold Gam.fits
 rw [srt_congr (join_perm x)]
 rfl
theorem mkB_inj {a b:List UInt8} (h:mkB a=mkB b):a=b:=by
 have:=congrArg (fun s:ByteArray=>s.data.toList) h
 simpa [mkB_data] using this
theorem mk_cmp (a b:List UInt8):((mkB a).toList == (mkB b).toList)=decide (a=b):=by
 rw [toList_beq]
 exact decide_eq_decide.2 ⟨mkB_inj,fun h=>by rw [h]⟩
theorem head_no1 {x:Gam} (h:x.setup.ok=false):x.headOk=false:=by unfold Gam.headOk;rw [h];rfl
theorem head_no2 {x:Gam} (h:x.board.ok=false):x.headOk=false:=by unfold Gam.headOk;rw [h];simp
theorem head_no3 {x:Gam} (h:¬ x.board.size=x.setup.board.size):x.headOk=false:=by unfold Gam.headOk;rw [decide_eq_false h];simp
theorem head_no4 {x:Gam} (h:¬ x.board.premium=x.setup.board.premium):x.headOk=false:=by unfold Gam.headOk;rw [decide_eq_false h];simp
theorem head_no5 {x:Gam} (h:bagOk x.bag.data.toList=false):x.headOk=false:=by unfold Gam.headOk;rw [h];simp
theorem head_yes {x:Gam} (h1:x.setup.ok=true) (h2:x.board.ok=true) (h3:x.board.size=x.setup.board.size) (h4:x.board.premium=x.setup.board.premium) (h5:bagOk x.bag.data.toList=true):x.headOk=true:=by
 unfold Gam.headOk;rw [h1,h2,decide_eq_true h3,decide_eq_true h4,h5];rfl
theorem list_no1 {x:Gam} (h:¬ x.racks.length=2):x.listOk=false:=by unfold Gam.listOk;rw [decide_eq_false h];rfl
theorem list_no2 {x:Gam} (h:¬ x.scores.length=2):x.listOk=false:=by unfold Gam.listOk;rw [decide_eq_false h];simp
theorem list_no3 {x:Gam} (h:¬ x.clocks.length=2):x.listOk=false:=by unfold Gam.listOk;rw [decide_eq_false h];simp
theorem list_no4 {x:Gam} (h:withinB x.player 0 1=false):x.listOk=false:=by unfold Gam.listOk;rw [h];simp
theorem list_yes {x:Gam} (h1:x.racks.length=2) (h2:x.scores.length=2) (h3:x.clocks.length=2) (h4:withinB x.player 0 1=true):x.listOk=true:=by
 unfold Gam.listOk;rw [decide_eq_true h1,decide_eq_true h2,decide_eq_true h3,h4];rfl
theorem Gam.no_side {x:Gam} {k:Nat} (hk:k < 2) (h:x.sideOk k=false):x.ok=false:=by
 by_cases e:k=0
 ·subst e;exact Gam.no_side0 h
 ·obtain rfl:k=1:=by omega
  exact Gam.no_side1 h
theorem side_no1 {x:Gam} {k:Nat} (h:rackOk (x.rack k).data.toList=false):x.sideOk k=false:=by unfold Gam.sideOk;rw [h];rfl
theorem side_no2 {x:Gam} {k:Nat} (h:withinB (x.scores.getD k 0) (-100000) 100000=false):x.sideOk k=false:=by unfold Gam.sideOk;rw [h];simp
theorem side_no3 {x:Gam} {k:Nat} (h:withinB (x.clocks.getD k 0) (-36000) 36000=false):x.sideOk k=false:=by unfold Gam.sideOk;rw [h];simp
theorem side_yes {x:Gam} {k:Nat} (h1:rackOk (x.rack k).data.toList=true) (h2:withinB (x.scores.getD k 0) (-100000) 100000=true) (h3:withinB (x.clocks.getD k 0) (-36000) 36000=true):x.sideOk k=true:=by
 unfold Gam.sideOk;rw [h1,h2,h3];rfl
theorem side_rack {x:Gam} {k:Nat} (h:x.sideOk k=true):rackOk (x.rack k).data.toList=true:=by
 unfold Gam.sideOk at h
 rw [Bool.and_eq_true] at h
 exact h.1
theorem rack_tl {l:List UInt8} (h:rackOk l=true):l.all tileB=true:=by
 have h1:=(pileOk_iff.1 (rack_pile h).1).1
 rw [List.all_eq_true]
 intro c hc
 obtain ⟨j,hj,rfl⟩:=List.getElem_of_mem hc
 have:=h1 j hj
 rwa [u8_at hj] at this
theorem l18Ok_any (x:Gam) (p:GaA) (g:Nat) (w:World) (hg:GAt w g x p) (hf:x.fit) :
  Calls Tryz.prog 49 #[.pointer (some ⟨g,0,none⟩)] w fun e w'=>e=.returned (.bool x.ok)∧Below w.heap.size w w':=by
 have hlt:=hg.lt
 have HF:=Lh hf
 have HG:=Lh hg
 have hb:Below w.heap.size w w:=Below.refl _ _
 have HSU:Hid (∀ W,GAt W g x p→Calls Tryz.prog 61 #[.pointer (some ⟨g,0,none⟩)] W fun e w'=>e=.returned (.bool x.setup.ok)∧Below W.heap.size W w'):=Lh (fun W h=>l18Setup_any x.setup p.setup g W h.setup HF.out.1)
 have HBO:Hid (∀ W,GAt W g x p→Calls Tryz.prog 90 #[.pointer (some ⟨g,10,none⟩)] W fun e w'=>e=.returned (.bool x.board.ok)∧Below W.heap.size W w'):=Lh (fun W h=>(l11Ok_any x.board g 10 W h.board HF.out.2.1).mono fun _ _ ⟨h1,h2⟩=>⟨h1,h2.bels⟩)
 have HBG:Hid (∀ W,Calls Tryz.prog 62 #[.string x.bag] W fun e w'=>e=.returned (.bool (bagOk x.bag.data.toList))∧Below W.heap.size W w'):=Lh (fun W=>below_of_eq (l17Ok_any _ W HF.out.2.2.1))
 have HNH:=Lh (fun h=>Gam.no_head (x:=x) h)
 have HNL:=Lh (fun h=>Gam.no_list (x:=x) h)
 have HNS:=Lh (fun k (hk:k < 2) h=>Gam.no_side (x:=x) (k:=k) hk h)
 have HNZ:=Lh (fun h=>Gam.no_zeros (x:=x) h)
 have HNO:=Lh (fun h=>Gam.no_over (x:=x) h)
 have HNF:=Lh (fun h=>Gam.no_fits (x:=x) h)
 have HYE:=Lh (fun a b c d e f g=>Gam.yes (x:=x) a b c d e f g)
 clear hg hf
 generalize hans:x.ok=ans at *
 clear hans
 have a5:=cell_regrown (HG.out.cell (i:=5) rfl)
 have a6:=cell_regrown (HG.out.cell (i:=6) rfl)
 have a10:=cell_regrown (HG.out.cell (i:=10) rfl)
 have a11:=cell_regrown (HG.out.cell (i:=11) rfl)
 have a13:=cell_regrown (HG.out.cell (i:=13) rfl)
 go_enter Tryz.func49,Tryz.ntmps49
 go_upto_region 1 with fail
 cases h1:x.setup.ok with
 | false =>
  have HN:=Lh (HNH.out (head_no1 h1))
  rw [h1] at HSU
  clear h1
  refine wp_region_quiet_below (by kernel_rfl) (by kernel_rfl) ?_
  repeat (go_big_quiet_step ((first | (go_at_call 61;exact Calls.regrown_of (HSU.out _ (HG.out.kept (below_regrown _ _ _)))) | (go_at_call 90;exact Calls.regrown_of (HBO.out _ (HG.out.kept (below_regrown _ _ _)))) | (go_at_call 62;exact Calls.regrown_of (HBG.out _)))))
  refine wpQuiet_nil ?_
  intro wx hw'
  obtain ⟨⟨dq,oq⟩,hw''⟩:=hw'
  have hdx:=below_regrown w dq oq
  rw [← hw''] at hdx
  clear hw'' a5 a6 a10 a11 a13
  replace HG:=Lh (HG.out.kept hdx)
  replace hb:=hb.trans (hdx.mono hb.size)
  clear hdx
  go_wp2
  go_ret
  exact ⟨ret_bool HN.out.symm,hb⟩
 | true =>
  have HS:=Lh h1
  rw [h1] at HSU
  clear h1
  cases h2:x.board.ok with
  | false =>
   have HN:=Lh (HNH.out (head_no2 h2))
   rw [h2] at HBO
   clear h2
   refine wp_region_quiet_below (by kernel_rfl) (by kernel_rfl) ?_
   repeat (go_big_quiet_step ((first | (go_at_call 61;exact Calls.regrown_of (HSU.out _ (HG.out.kept (below_regrown _ _ _)))) | (go_at_call 90;exact Calls.regrown_of (HBO.out _ (HG.out.kept (below_regrown _ _ _)))) | (go_at_call 62;exact Calls.regrown_of (HBG.out _)))))
   refine wpQuiet_nil ?_
   intro wx hw'
   obtain ⟨⟨dq,oq⟩,hw''⟩:=hw'
   have hdx:=below_regrown w dq oq
   rw [← hw''] at hdx
   clear hw'' a5 a6 a10 a11 a13
   replace HG:=Lh (HG.out.kept hdx)
   replace hb:=hb.trans (hdx.mono hb.size)
   clear hdx
   go_wp2
   go_ret
   exact ⟨ret_bool HN.out.symm,hb⟩
  | true =>
   have HB:=Lh h2
   rw [h2] at HBO
   clear h2
   by_cases h3:x.board.size=x.setup.board.size
   case neg =>
    have HN:=Lh (HNH.out (head_no3 h3))
    have e3:(x.board.size != x.setup.board.size)=true:=by rw [bne_iff_ne];exact h3
    clear h3
    refine wp_region_quiet_below (by kernel_rfl) (by kernel_rfl) ?_
    repeat (go_big_quiet_step ((first | (go_at_call 61;exact Calls.regrown_of (HSU.out _ (HG.out.kept (below_regrown _ _ _)))) | (go_at_call 90;exact Calls.regrown_of (HBO.out _ (HG.out.kept (below_regrown _ _ _)))) | (go_at_call 62;exact Calls.regrown_of (HBG.out _)))))
    refine wpQuiet_nil ?_
    intro wx hw'
    obtain ⟨⟨dq,oq⟩,hw''⟩:=hw'
    have hdx:=below_regrown w dq oq
    rw [← hw''] at hdx
    clear hw'' a5 a6 a10 a11 a13
    replace HG:=Lh (HG.out.kept hdx)
    replace hb:=hb.trans (hdx.mono hb.size)
    clear hdx
    go_wp2
    go_ret
    exact ⟨ret_bool HN.out.symm,hb⟩
   case pos =>
    have H3:=Lh h3
    have e3:(x.board.size != x.setup.board.size)=false:=by rw [h3];simp
    clear h3
    by_cases h4:x.board.premium=x.setup.board.premium
    case neg =>
     have HN:=Lh (HNH.out (head_no4 h4))
     have e4:(x.board.premium.toList == x.setup.board.premium.toList)=false:=by rw [toList_beq,decide_eq_false h4]
     clear h4
     refine wp_region_quiet_below (by kernel_rfl) (by kernel_rfl) ?_
     repeat (go_big_quiet_step ((first | (go_at_call 61;exact Calls.regrown_of (HSU.out _ (HG.out.kept (below_regrown _ _ _)))) | (go_at_call 90;exact Calls.regrown_of (HBO.out _ (HG.out.kept (below_regrown _ _ _)))) | (go_at_call 62;exact Calls.regrown_of (HBG.out _)))))
     refine wpQuiet_nil ?_
     intro wx hw'
     obtain ⟨⟨dq,oq⟩,hw''⟩:=hw'
     have hdx:=below_regrown w dq oq
     rw [← hw''] at hdx
     clear hw'' a5 a6 a10 a11 a13
     replace HG:=Lh (HG.out.kept hdx)
     replace hb:=hb.trans (hdx.mono hb.size)
     clear hdx
     go_wp2
     go_ret
     exact ⟨ret_bool HN.out.symm,hb⟩
    case pos =>
     have H4:=Lh h4
     have e4:(x.board.premium.toList == x.setup.board.premium.toList)=true:=by rw [toList_beq,decide_eq_true h4]
     clear h4
     cases h5:bagOk x.bag.data.toList with
     | false =>
      have HN:=Lh (HNH.out (head_no5 h5))
      rw [h5] at HBG
      clear h5
      refine wp_region_quiet_below (by kernel_rfl) (by kernel_rfl) ?_
      repeat (go_big_quiet_step ((first | (go_at_call 61;exact Calls.regrown_of (HSU.out _ (HG.out.kept (below_regrown _ _ _)))) | (go_at_call 90;exact Calls.regrown_of (HBO.out _ (HG.out.kept (below_regrown _ _ _)))) | (go_at_call 62;exact Calls.regrown_of (HBG.out _)))))
      refine wpQuiet_nil ?_
      intro wx hw'
      obtain ⟨⟨dq,oq⟩,hw''⟩:=hw'
      have hdx:=below_regrown w dq oq
      rw [← hw''] at hdx
      clear hw'' a5 a6 a10 a11 a13
      replace HG:=Lh (HG.out.kept hdx)
      replace hb:=hb.trans (hdx.mono hb.size)
      clear hdx
      go_wp2
      go_ret
      exact ⟨ret_bool HN.out.symm,hb⟩
     | true =>
      have HHO:=Lh (head_yes HS.out HB.out H3.out H4.out h5)
      have H5:=Lh h5
      rw [h5] at HBG
      clear h5 H3 H4
      refine wp_region_quiet_below (by kernel_rfl) (by kernel_rfl) ?_
      repeat (go_big_quiet_step ((first | (go_at_call 61;exact Calls.regrown_of (HSU.out _ (HG.out.kept (below_regrown _ _ _)))) | (go_at_call 90;exact Calls.regrown_of (HBO.out _ (HG.out.kept (below_regrown _ _ _)))) | (go_at_call 62;exact Calls.regrown_of (HBG.out _)))))
      refine wpQuiet_nil ?_
      intro wx hw'
      obtain ⟨⟨dq,oq⟩,hw''⟩:=hw'
      have hdx:=below_regrown w dq oq
      rw [← hw''] at hdx
      clear hw'' a5 a6 a10 a11 a13
      replace HG:=Lh (HG.out.kept hdx)
      replace hb:=hb.trans (hdx.mono hb.size)
      clear hdx
      clear HSU HBO HBG e3 e4 HNH
      have c14:=HG.out.cell (i:=14) rfl
      have c15:=HG.out.cell (i:=15) rfl
      have c16:=HG.out.cell (i:=16) rfl
      have c17:=HG.out.cell (i:=17) rfl
      have c18:=HG.out.cell (i:=18) rfl
      by_cases l1:x.racks.length=2
      case neg =>
       have HN:=Lh (HNL.out (list_no1 l1))
       have f1:((x.racks.length:Int) != 2)=true:=by rw [bne_iff_ne];omega
       clear l1
       go_wp2
       go_ret
       exact ⟨ret_bool HN.out.symm,hb⟩
      case pos =>
       have L1:=Lh l1
       have f1:((x.racks.length:Int) != 2)=false:=by rw [l1];rfl
       clear l1
       by_cases l2:x.scores.length=2
       case neg =>
        have HN:=Lh (HNL.out (list_no2 l2))
        have f2:((x.scores.length:Int) != 2)=true:=by rw [bne_iff_ne];omega
        clear l2
        go_wp2
        go_ret
        exact ⟨ret_bool HN.out.symm,hb⟩
       case pos =>
        have L2:=Lh l2
        have f2:((x.scores.length:Int) != 2)=false:=by rw [l2];rfl
        clear l2
        by_cases l3:x.clocks.length=2
        case neg =>
         have HN:=Lh (HNL.out (list_no3 l3))
         have f3:((x.clocks.length:Int) != 2)=true:=by rw [bne_iff_ne];omega
         clear l3
         go_wp2
         go_ret
         exact ⟨ret_bool HN.out.symm,hb⟩
        case pos =>
         have L3:=Lh l3
         have f3:((x.clocks.length:Int) != 2)=false:=by rw [l3];rfl
         clear l3
         have HIP:Hid (∀ W,Calls Tryz.prog 24 #[.int .i64 x.player,.int .i64 0,.int .i64 1] W fun e w'=>e=.returned (.bool (withinB x.player 0 1))∧W=w'):=Lh (fun W=>l00In_any _ _ _ W)
         have HIZ:Hid (∀ W,Calls Tryz.prog 24 #[.int .i64 x.zeros,.int .i64 0,.int .i64 6] W fun e w'=>e=.returned (.bool (withinB x.zeros 0 6))∧W=w'):=Lh (fun W=>l00In_any _ _ _ W)
         cases l4:withinB x.player 0 1 with
         | false =>
          have HN:=Lh (HNL.out (list_no4 l4))
          rw [l4] at HIP
          clear l4
          go_wp2_with fail
          refine (HIP.out _).mono ?_
          rintro e w' ⟨rfl,rfl⟩
          go_wp2
          go_ret
          exact ⟨ret_bool HN.out.symm,hb⟩
         | true =>
          have L4:=Lh l4
          rw [l4] at HIP
          clear l4
          cases l5:withinB x.zeros 0 6 with
          | false =>
           have HN:=Lh (HNZ.out l5)
           rw [l5] at HIZ
           clear l5
           go_wp2_with fail
           refine (HIP.out _).mono ?_
           rintro e w' ⟨rfl,rfl⟩
           go_wp2_with fail
           refine (HIZ.out _).mono ?_
           rintro e w' ⟨rfl,rfl⟩
           go_wp2
           go_ret
           exact ⟨ret_bool HN.out.symm,hb⟩
          | true =>
           have L5:=Lh l5
           rw [l5] at HIZ
           clear l5
           have HLO:=Lh (list_yes L1.out L2.out L3.out L4.out)
           go_wp2_with fail
           refine (HIP.out _).mono ?_
           rintro e w' ⟨rfl,rfl⟩
           go_wp2_with fail
           refine (HIZ.out _).mono ?_
           rintro e w' ⟨rfl,rfl⟩
           clear HIP HIZ c14 c15 c16 c17 c18 f1 f2 f3 HNL HNZ
           go_upto_region 6 with fail
           go_loopw [3] (fun iv wr=>∃ k:Nat,k≤2∧iv=.int .i64 k∧Hid (∀ j,j < k→x.sideOk j=true)∧Hid (GAt wr g x p)∧Below w.heap.size w wr) (fun iv _=>2 - (intOf iv).toNat)
           case atStart=>exact ⟨0,Nat.zero_le _,rfl,Lh (fun j h=>absurd h (Nat.not_lt_zero _)),HG,hb⟩
           case round =>
            clear HG hb
            obtain ⟨k,hk,rfl,HP,HG,hb⟩:=hrel
            by_cases hk2:k < 2
            ·obtain ⟨rb,ro,hra,hrc⟩:=(HG.out.at_.2.1).open (show k < x.racks.length by have:=L1.out;omega)
             have rc:wr.cell? ⟨rb,ro+k,none⟩=some (.string (x.rack k)):=words_cell hrc (show k < x.racks.length by have:=L1.out;omega)
             obtain ⟨sb,so,hsa,sc⟩:=num_cell (HG.out.at_.2.2.1) (show k < x.scores.length by have:=L2.out;omega)
             obtain ⟨cb,co,hca,cc⟩:=num_cell (HG.out.at_.2.2.2) (show k < x.clocks.length by have:=L3.out;omega)
             have c14:=HG.out.cell (i:=14) rfl
             have c15:=HG.out.cell (i:=15) rfl
             have c16:=HG.out.cell (i:=16) rfl
             rw [hra,L1.out] at c14
             rw [hsa,L2.out] at c15
             rw [hca,L3.out] at c16
             have hki:(k:Int) < 2:=by omega
             have HNk:=Lh (fun h=>HNS.out k hk2 h)
             have HRK:Hid (∀ W,Calls Tryz.prog 91 #[.string (x.rack k)] W fun e w'=>e=.returned (.bool (rackOk (x.rack k).data.toList))∧Drew W w'):=Lh (fun W=>l03Rack_any (x.rack k) W (by
              have h1:k < x.racks.length:=by have:=L1.out;omega
              have h2:=HF.out.2.2.2.1.2 x.racks[k] (List.getElem_mem h1)
              unfold Gam.rack
              rw [List.getD_eq_getElem?_getD,List.getElem?_eq_getElem h1]
              exact h2))
             have HIS:Hid (∀ W,Calls Tryz.prog 24 #[.int .i64 (x.scores.getD k 0),.int .i64 (-100000),.int .i64 100000] W fun e w'=>e=.returned (.bool (withinB (x.scores.getD k 0) (-100000) 100000))∧W=w'):=Lh (fun W=>l00In_any _ _ _ W)
             have HIC:Hid (∀ W,Calls Tryz.prog 24 #[.int .i64 (x.clocks.getD k 0),.int .i64 (-36000),.int .i64 36000] W fun e w'=>e=.returned (.bool (withinB (x.clocks.getD k 0) (-36000) 36000))∧W=w'):=Lh (fun W=>l00In_any _ _ _ W)
             clear hrc hra hsa hca
             cases s1:rackOk (x.rack k).data.toList with
             | false =>
              have HN:=Lh (HNk.out (side_no1 s1))
              rw [s1] at HRK
              clear s1
              go_wp2_with fail
              refine (HRK.out _).mono ?_
              rintro e w3 ⟨rfl,hdq⟩
              have hd:=hdq.bels
              replace hb:=hb.trans (hd.mono hb.size)
              clear hd hdq rc sc cc c14 c15 c16
              go_wp2
              go_ret
              exact ⟨ret_bool HN.out.symm,hb⟩
             | true =>
              have HS1:=Lh s1
              rw [s1] at HRK
              clear s1
              cases s2:withinB (x.scores.getD k 0) (-100000) 100000 with
              | false =>
               have HN:=Lh (HNk.out (side_no2 s2))
               rw [s2] at HIS
               clear s2
               go_wp2_with fail
               refine (HRK.out _).mono ?_
               rintro e w3 ⟨rfl,hdq⟩
               have hd:=hdq.bels
               clear hdq
               replace hb:=hb.trans (hd.mono hb.size)
               replace rc:=cell_kept rc hd
               replace sc:=cell_kept sc hd
               replace cc:=cell_kept cc hd
               replace c14:=cell_kept c14 hd
               replace c15:=cell_kept c15 hd
               replace c16:=cell_kept c16 hd
               clear hd
               go_wp2_with fail
               refine (HIS.out _).mono ?_
               rintro e w' ⟨rfl,rfl⟩
               go_wp2
               go_ret
               exact ⟨ret_bool HN.out.symm,hb⟩
              | true =>
               have HS2:=Lh s2
               rw [s2] at HIS
               clear s2
               cases s3:withinB (x.clocks.getD k 0) (-36000) 36000 with
               | false =>
                have HN:=Lh (HNk.out (side_no3 s3))
                rw [s3] at HIC
                clear s3
                go_wp2_with fail
                refine (HRK.out _).mono ?_
                rintro e w3 ⟨rfl,hdq⟩
                have hd:=hdq.bels
                clear hdq
                replace hb:=hb.trans (hd.mono hb.size)
                replace rc:=cell_kept rc hd
                replace sc:=cell_kept sc hd
                replace cc:=cell_kept cc hd
                replace c14:=cell_kept c14 hd
                replace c15:=cell_kept c15 hd
                replace c16:=cell_kept c16 hd
                clear hd
                go_wp2_with fail
                refine (HIS.out _).mono ?_
                rintro e w' ⟨rfl,rfl⟩
                go_wp2_with fail
                refine (HIC.out _).mono ?_
                rintro e w' ⟨rfl,rfl⟩
                go_wp2
                go_ret
                exact ⟨ret_bool HN.out.symm,hb⟩
               | true =>
                have HPN:Hid (∀ j,j < k+1→x.sideOk j=true):=Lh (fun j hj=>by
                 by_cases e:j=k
                 ·subst e;exact side_yes HS1.out HS2.out s3
                 ·exact HP.out j (by omega))
                rw [s3] at HIC
                clear s3 HP
                go_wp2_with fail
                refine (HRK.out _).mono ?_
                rintro e w3 ⟨rfl,hdq⟩
                have hd:=hdq.bels
                clear hdq
                replace hb:=hb.trans (hd.mono hb.size)
                replace rc:=cell_kept rc hd
                replace sc:=cell_kept sc hd
                replace cc:=cell_kept cc hd
                replace c14:=cell_kept c14 hd
                replace c15:=cell_kept c15 hd
                replace c16:=cell_kept c16 hd
                replace HG:=Lh (HG.out.kept hd)
                clear hd
                go_wp2_with fail
                refine (HIS.out _).mono ?_
                rintro e w' ⟨rfl,rfl⟩
                go_wp2_with fail
                refine (HIC.out _).mono ?_
                rintro e w' ⟨rfl,rfl⟩
                clear rc sc cc c14 c15 c16
                go_wp2
                go_roundw
                case rel=>exact ⟨k+1,by omega,by go_num,HPN,HG,hb⟩
                case measure=>simp [intOf];omega
            ·obtain rfl:k=2:=by omega
             have hs0:=HP.out 0 (by omega)
             have hs1:=HP.out 1 (by omega)
             have hr0:=side_rack hs0
             have hr1:=side_rack hs1
             have hl0:(x.rack 0).size≤7:=by have:=(rack_pile hr0).2;simpa using this
             have hl1:(x.rack 1).size≤7:=by have:=(rack_pile hr1).2;simpa using this
             obtain ⟨hbt,hbl⟩:=bag_parts H5.out
             have hbz:x.bag.size≤120:=by simpa using hbl
             have hlt2:=lets_tiles HB.out
             have h225:=board_225 HB.out
             have hln:x.lets.length≤225:=by
              unfold Gam.lets
              rw [List.length_map]
              have:=lettersL_len x.board.cells.data.toList
              have h3:x.board.cells.data.toList.length=x.board.cells.size:=by simp
              omega
             have hsl:(srtL x.lets).length≤225:=by rw [srt_len hlt2];exact hln
             have hjt:x.joinS.all tileB=true:=by
              unfold Gam.joinS
              rw [List.all_append,List.all_append,List.all_append,srt_all,rack_tl hr0,rack_tl hr1,hbt]
              rfl
             have hsd:x.Sided:=⟨(Stp.good HS.out).tiles,(within_iff.1 L4.out).1,(within_iff.1 L4.out).2,L1.out,fun j hj=>side_rack (HP.out j hj)⟩
             have HLT:Hid (∀ W,GAt W g x p→Calls Tryz.prog 93 #[.pointer (some ⟨g,10,none⟩)] W fun e w'=>e=.returned (.string (mkB (lettersL x.board.cells.data.toList)))∧Below W.heap.size W w'):=Lh (fun W h=>l11Letters_any x.board g 10 W h.board h225)
             have HTI:Hid (∀ W,Calls Tryz.prog 92 #[.string (mkB (lettersL x.board.cells.data.toList))] W fun e w'=>e=.returned (.string (mkB (srtL x.lets)))∧Below W.heap.size W w'):=Lh (fun W=>by
              have h:=l03Tiles_any (mkB (lettersL x.board.cells.data.toList)) W (by
               rw [mkB_size]
               have:=lettersL_len x.board.cells.data.toList
               have h3:x.board.cells.data.toList.length=x.board.cells.size:=by simp
               omega)
              rw [mkB_data] at h
              exact h.mono fun e w' ⟨R,h1,h2,h3,h4⟩=>⟨by rw [h1,srt_of hlt2 h2 h3],h4⟩)
             have hjd:(mkB (srtL x.lets)++x.rack 0++x.rack 1++x.bag).data.toList=x.joinS:=by
              unfold Gam.joinS
              rw [cat_mk,cat_mk,cat_mk,mkB_data,mkB_data,mkB_data,mkB_data]
             have HSO:Hid (∀ W,Calls Tryz.prog 63 #[.string (mkB (srtL x.lets)++x.rack 0++x.rack 1++x.bag)] W fun e w'=>e=.returned (.string (mkB (srtL x.joinS)))∧Below W.heap.size W w'):=Lh (fun W=>by
              have h:=l03Sort_any (mkB (srtL x.lets)++x.rack 0++x.rack 1++x.bag) W (by
               simp only [ByteArray.size_append,mkB_size]
               omega)
              rw [hjd] at h
              exact h.mono fun e w' ⟨R,h1,h2,h3,h4⟩=>⟨by rw [h1,srt_of hjt h2 h3],h4⟩)
             have HAL:Hid (∀ W,GAt W g x p→Calls Tryz.prog 60 #[.pointer (some ⟨g,0,none⟩)] W fun e w'=>e=.returned (.string (mkB (allL x.setup.tiles)))∧Below W.heap.size W w'):=Lh (fun W h=>l02All_any x.setup.tiles p.setup.tiles g W h.tiles hsd.tiles)
             have HLA:Hid (∀ W,GAt W g x p→Calls Tryz.prog 94 #[.pointer (some ⟨g,0,none⟩)] W fun e w'=>e=.returned (.bool x.lastOk)∧Below W.heap.size W w'):=Lh (fun W h=>l18LastOk_any x p g W h (Lh fun W h=>l18PlayOk_any x p g W h HF.out hsd))
             have HCM:Hid (((mkB (srtL x.joinS)).toList == (mkB (allL x.setup.tiles)).toList)=x.fits):=Lh (by rw [mk_cmp,fits_join])
             have HANS:Hid (x.fits=true→ans=(x.lastOk && (x.over || decide (x.zeros < 6)))):=Lh (fun hft=>by
              cases ho:(x.over || decide (x.zeros < 6)) with
              | false=>rw [HNO.out ho,Bool.and_false]
              | true=>rw [HYE.out HHO.out HLO.out hs0 hs1 L5.out ho hft,Bool.and_true])
             have hz1:(mkB (srtL x.lets)).size+(x.rack 0).size≤9223372036854775807:=by rw [mkB_size];omega
             have hz2:(mkB (srtL x.lets)).size+(x.rack 0).size+(x.rack 1).size≤9223372036854775807:=by rw [mkB_size];omega
             have hz3:(mkB (srtL x.lets)).size+(x.rack 0).size+(x.rack 1).size+x.bag.size≤9223372036854775807:=by rw [mkB_size];omega
             obtain ⟨rb,ro,hra,hrc⟩:=(HG.out.at_.2.1).open (show 0 < x.racks.length by have:=L1.out;omega)
             have rc0:wr.cell? ⟨rb,ro+0,none⟩=some (.string (x.rack 0)):=words_cell hrc (show 0 < x.racks.length by have:=L1.out;omega)
             have rc1:wr.cell? ⟨rb,ro+1,none⟩=some (.string (x.rack 1)):=words_cell hrc (show 1 < x.racks.length by have:=L1.out;omega)
             rw [Nat.add_zero] at rc0
             have c14:=HG.out.cell (i:=14) rfl
             rw [hra,L1.out] at c14
             have b0:=cell_regrown rc0
             have b1:=cell_regrown rc1
             have b14:=cell_regrown c14
             have b13:=cell_regrown (HG.out.cell (i:=13) rfl)
             clear hs0 hs1 hr0 hr1 hbt hbl hlt2 h225 hln hsl hjt hsd hjd hrc hra HP HNS HNO HYE HHO HLO hl0 hl1 hbz c14 rc0 rc1
             generalize x.rack 0=r0 at *
             generalize x.rack 1=r1 at *
             generalize mkB (srtL x.lets)=T at *
             generalize mkB (lettersL x.board.cells.data.toList)=U at *
             generalize mkB (srtL x.joinS)=S1 at *
             generalize mkB (allL x.setup.tiles)=S2 at *
             generalize hfv:x.fits=fv at *
             clear hfv
             have hcm:=HCM.out
             clear HCM
             go_upto_region 10 with fail
             refine wp_region_quiet_below (by kernel_rfl) (by kernel_rfl) ?_
             repeat (go_big_quiet_step ((first | (go_at_call 93;exact Calls.regrown_of (HLT.out _ (HG.out.kept (below_regrown _ _ _)))) | (go_at_call 92;exact Calls.regrown_of (HTI.out _)) | (go_at_call 63;exact Calls.regrown_of (HSO.out _)) | (go_at_call 60;exact Calls.regrown_of (HAL.out _ (HG.out.kept (below_regrown _ _ _)))))))
             refine wpQuiet_nil ?_
             intro wx hw'
             obtain ⟨⟨dq,oq⟩,hw''⟩:=hw'
             have hd:=below_regrown wr dq oq
             rw [← hw''] at hd
             clear hw'' b0 b1 b13 b14
             replace hb:=hb.trans (hd.mono hb.size)
             replace HG:=Lh (HG.out.kept hd)
             clear hd
             cases fv with
             | false =>
              have HN:=Lh (HNF.out rfl)
              go_wp2
              go_ret
              exact ⟨ret_bool HN.out.symm,hb⟩
             | true =>
              have HN:=Lh (HANS.out rfl)
              clear HANS HNF
              go_wp2_with fail
              refine (HLA.out _ HG.out).mono ?_
              rintro e w9 ⟨rfl,hd⟩
              replace hb:=hb.trans (hd.mono hb.size)
              replace HG:=Lh (HG.out.kept hd)
              clear hd
              clear HLA
              generalize x.lastOk=lv at *
              have c18:=HG.out.cell (i:=18) rfl
              have c29:=HG.out.cell (i:=29) rfl
              cases lv with
              | false =>
               go_wp2
               go_ret
               exact ⟨ret_bool (by rw [HN.out];rfl),hb⟩
              | true =>
               generalize x.over=ov at *
               cases ov with
               | true =>
                go_wp2
                go_ret
                exact ⟨ret_bool (by rw [HN.out];rfl),hb⟩
               | false =>
                go_wp2
                go_ret
                exact ⟨ret_bool (by rw [HN.out];rfl),hb⟩
end Go.Proofs.YtgphkffbbmmmmaaGreatDoor
namespace Go.Proofs.YtgphkffbbmmmmaaGreatDoor
open Go.ChangeShapes Go.WideShapes Go.ChangeAt Go.RowKit Go.Sort

theorem srt_rack {l:List UInt8} (h:l.all tileB=true) (hl:l.length≤7):rackOk (srtL l)=true:=by
 have hlen:(srtL l).length=l.length:=(srt_perm h).length_eq
 have ha:(srtL l).all tileB=true:=srt_all
 have hs:=srt_sort l
 unfold rackOk
 rw [Bool.and_eq_true,decide_eq_true_eq]
 refine ⟨pileOk_iff.2 ⟨fun j hj=>?_,fun j hj h0=>?_,by omega⟩,by omega⟩
 ·rw [u8_at hj];exact List.all_eq_true.1 ha _ (List.getElem_mem _)
 ·rw [u8_at hj,u8_at (show j - 1 < _ by omega)]
  exact List.pairwise_iff_getElem.1 hs (j - 1) j _ _ (by omega)
theorem all_take {l:List UInt8} (h:l.all tileB=true) (n:Nat):(l.take n).all tileB=true:=List.all_eq_true.2 fun c hc=>List.all_eq_true.1 h c (List.mem_of_mem_take hc)
theorem all_drop {l:List UInt8} (h:l.all tileB=true) (n:Nat):(l.drop n).all tileB=true:=List.all_eq_true.2 fun c hc=>List.all_eq_true.1 h c (List.mem_of_mem_drop hc)
theorem start_perm {bag:List UInt8} (h:bag.all tileB=true):(bag.drop 14++srtL (bag.take 7)++srtL ((bag.take 14).drop 7)).Perm bag:=by
 have h1:=srt_perm (all_take h 7)
 have h2:=srt_perm (all_drop (all_take h 14) 7)
 refine (((List.Perm.refl _).append h1).append h2).trans ?_
 have e:bag=bag.take 7++((bag.take 14).drop 7++bag.drop 14):=by
  conv=>lhs;rw [← List.take_append_drop 14 bag]
  rw [← List.append_assoc]
  congr 1
  conv=>lhs;rw [← List.take_append_drop 7 (bag.take 14)]
  rw [List.take_take]
  rfl
 conv=>rhs;rw [e]
 rw [List.append_assoc]
 exact List.perm_append_comm.trans (by rw [List.append_assoc])
theorem start_ok {s:Stp} {bag:List UInt8} (hs:s.ok=true) (hb:BagFor s.tiles bag):(startG s bag).ok=true:=by
 have g:=Stp.good hs
 have ht:=hb.tiles
 have hl:lettersL s.board.cells.data.toList=[]:=List.length_eq_zero_iff.1 (of_decide_eq_true g.blank)
 have hsec:=g.seconds
 have r0:rackOk (srtL (bag.take 7))=true:=srt_rack (all_take ht 7) (by rw [List.length_take];omega)
 have r1:rackOk (srtL ((bag.take 14).drop 7))=true:=srt_rack (all_drop (all_take ht 14) 7) (by rw [List.length_drop,List.length_take];omega)
 have hc:withinB s.seconds (-36000) 36000=true:=by
  simp only [withinB,Bool.and_eq_true,decide_eq_true_eq] at hsec ⊢
  omega
 rw [Gam.yes]
 ·rfl
 ·refine head_yes hs g.board rfl rfl ?_
  show bagOk (mkB (bag.drop 14)).data.toList=true
  rw [mkB_data]
  unfold bagOk
  rw [all_drop ht]
  have:=hb.high
  simp only [Bool.true_and,decide_eq_true_eq,List.length_drop]
  omega
 ·rfl
 ·show (rackOk (mkB (srtL (bag.take 7))).data.toList && (_ && withinB s.seconds (-36000) 36000))=true
  rw [mkB_data,r0,hc]
  rfl
 ·show (rackOk (mkB (srtL ((bag.take 14).drop 7))).data.toList && (_ && withinB s.seconds (-36000) 36000))=true
  rw [mkB_data,r1,hc]
  rfl
 ·rfl
 ·rfl
 ·show decide (srtL ((mkB (bag.drop 14)).data.toList++(mkB (srtL (bag.take 7))).data.toList++(mkB (srtL ((bag.take 14).drop 7))).data.toList++srtL ((lettersL s.board.cells.data.toList).map tlC))=allL s.tiles)=true
  rw [hl,mkB_data,mkB_data,mkB_data]
  have e:srtL (([]:List UInt8).map tlC)=[]:=by kernel_rfl
  rw [e,List.append_nil,srt_congr (start_perm ht),hb.srt]
  exact decide_eq_true rfl
end Go.Proofs.YtgphkffbbmmmmaaGreatDoor
