/- Contracts: an exchange of tiles: the reference and the program. Texts fit. · Contracts: an exchange turn: the reference and the program. Go's tables of unicode and uni · Contracts: an exchange turn: the program. Go's tables of unicode and unicode/utf8 hold wha -/
import Derived.Test.YtkjhapbjdjcipaaGreatDoorGxP
import Derived.Test.YtkjhapbjdjcipaaGreatDoorLgD
import Derived.Test.YtkjhapbjdjcipaaGreatDoorGmI
import Derived.Test.YtkjhapbjdjcipaaGreatDoorGpG
import Derived.Lib.BufferWrite
import Derived.Deep.OwnRows
import Derived.Laws.CopyOwn
import Derived.Test.YtkjhapbjdjcipaaGreatDoorGpQ
set_option maxRecDepth 100000
set_option maxHeartbeats 8000000
namespace Go.Proofs.YtkjhapbjdjcipaaGreatDoor
open Go.ChangeShapes Go.WideShapes Go.ChangeAt Go.RowKit Go.Sort

def ExchPost (r:List UInt8 × List UInt8 × Int) (w:World) (e:Ending) (w':World):Prop :=
 e=.returned (.tuple #[.string (mkB r.1),.string (mkB r.2.1),.int .i64 r.2.2])∧Below w.heap.size w w'
theorem exch_post {r:List UInt8 × List UInt8 × Int} {w w':World} {a b:List UInt8} {c:Int} {e:Ending} (h:r=(a,b,c)) (he:e=.returned (.tuple #[.string (mkB a),.string (mkB b),.int .i64 c])) (hb:Below w.heap.size w w'):ExchPost r w e w':=by
 subst h
 exact ⟨he,hb⟩
theorem tk_data (s:ByteArray) (n:Nat):(s.extract 0 n).data.toList=s.data.toList.take n:=by simp
theorem dp_data (s:ByteArray) (n:Nat):(s.extract n s.size).data.toList=s.data.toList.drop n:=by rw [Lib.extract_to_end]
theorem Exch.new_all {bag rack tiles:List UInt8} (h:Exch bag rack tiles):(restL rack tiles++bag.take tiles.length).all tileB=true:=by
 have hb:=(bag_parts h.gbag).1
 rw [List.all_append,Bool.and_eq_true]
 exact ⟨rest_all,List.all_eq_true.2 fun c hc=>(List.all_eq_true.1 hb) c (List.mem_of_mem_take hc)⟩
theorem Exch.sorted_of {bag rack tiles R:List UInt8} (h:Exch bag rack tiles) (hs:SortedT R) (hp:R.Perm (takeR tiles rack++bag.take tiles.length)):R=newRack bag rack tiles:=by
 unfold newRack
 exact srt_of h.new_all hs (hp.trans (List.Perm.append_right _ (take_rest (rack_parts h.grack).1 h.gtiles h.has).2.symm))
theorem specExchangeTiles_any (bag rack tiles:ByteArray) (w:World) (hgs:bag.size≤9223372036854775807) (hrs:rack.size≤9223372036854775807) (hts:tiles.size≤9223372036854775807) :
  Calls Tryz.prog 30 #[.string bag,.string rack,.string tiles] w (ExchPost (exchOf bag.data.toList rack.data.toList tiles.data.toList) w):=by
 have HB0:=Lh (fun W=>l17Ok_any bag W hgs)
 have HR0:Hid (∀ W,Calls Tryz.prog 69 #[.string rack] W fun e w'=>e=.returned (.bool (rackOk rack.data.toList))∧Below W.heap.size W w'):=Lh (fun W=>(l03Rack_any rack W hrs).mono (by
  rintro e w' ⟨h1,h2⟩
  exact ⟨h1,h2.below _⟩))
 have HP0:Hid (∀ W,Calls Tryz.prog 29 #[.string tiles] W fun e w'=>e=.returned (.bool (pileOk tiles.data.toList))∧Below W.heap.size W w'):=Lh (fun W=>(l03Pile_any tiles W hts).mono (by
  rintro e w' ⟨h1,h2⟩
  exact ⟨h1,h2.below _⟩))
 have hb:Below w.heap.size w w:=Below.refl _ _
 cases h1:bagOk bag.data.toList with
 | false =>
  have HW:=Lh (exch1 (bag:=bag.data.toList) (rack:=rack.data.toList) (tiles:=tiles.data.toList) (by rw [h1];rintro ⟨h,_⟩;cases h))
  rw [h1] at HB0
  clear h1 HR0 HP0
  go_enter Tryz.func30,Tryz.ntmps30
  go_wp2_with fail
  refine (HB0.out _).mono ?_
  rintro e w' ⟨rfl,rfl⟩
  go_wp2
  go_ret3
  exact exch_post HW.out rfl hb
 | true =>
  cases h2:rackOk rack.data.toList with
  | false =>
   have HW:=Lh (exch1 (bag:=bag.data.toList) (rack:=rack.data.toList) (tiles:=tiles.data.toList) (by rw [h2];rintro ⟨_,h,_⟩;cases h))
   rw [h1] at HB0
   rw [h2] at HR0
   clear h1 h2 HP0
   go_enter Tryz.func30,Tryz.ntmps30
   go_wp2_with fail
   refine (HB0.out _).mono ?_
   rintro e w' ⟨rfl,rfl⟩
   go_wp2_with fail
   refine (HR0.out _).mono ?_
   rintro e w2 ⟨rfl,hd⟩
   replace hb:=hb.trans (hd.mono hb.size)
   clear hd
   go_wp2
   go_ret3
   exact exch_post HW.out rfl hb
  | true =>
   cases h3:pileOk tiles.data.toList with
   | false =>
    have HW:=Lh (exch1 (bag:=bag.data.toList) (rack:=rack.data.toList) (tiles:=tiles.data.toList) (by rw [h3];rintro ⟨_,_,h⟩;cases h))
    rw [h1] at HB0
    rw [h2] at HR0
    rw [h3] at HP0
    clear h1 h2 h3
    go_enter Tryz.func30,Tryz.ntmps30
    go_wp2_with fail
    refine (HB0.out _).mono ?_
    rintro e w' ⟨rfl,rfl⟩
    go_wp2_with fail
    refine (HR0.out _).mono ?_
    rintro e w2 ⟨rfl,hd⟩
    replace hb:=hb.trans (hd.mono hb.size)
    clear hd
    go_wp2_with fail
    refine (HP0.out _).mono ?_
    rintro e w3 ⟨rfl,hd⟩
    replace hb:=hb.trans (hd.mono hb.size)
    clear hd
    go_wp2
    go_ret3
    exact exch_post HW.out rfl hb
   | true =>
    have hx:bagOk bag.data.toList=true∧rackOk rack.data.toList=true∧pileOk tiles.data.toList=true:=⟨h1,h2,h3⟩
    have HX:=Lh hx
    rw [h1] at HB0
    rw [h2] at HR0
    rw [h3] at HP0
    obtain ⟨r1,r2⟩:=rack_parts h2
    obtain ⟨a1,a2,_⟩:=pile_parts r1
    obtain ⟨b1,b2,b3⟩:=pile_parts h3
    have g3:=(bag_parts h1).2
    have hrz:rack.size≤7:=by simpa using r2
    have htz:tiles.size≤120:=by simpa using b3
    have hgz:bag.size≤120:=by simpa using g3
    have htl:tiles.data.toList.length=tiles.size:=by simp
    have hgl:bag.data.toList.length=bag.size:=by simp
    have HTK:Hid (∀ W,Calls Tryz.prog 70 #[.string rack,.string tiles] W fun e w'=>e=.returned (.tuple #[.string (mkB (takeR tiles.data.toList rack.data.toList)),.bool (hasT rack.data.toList tiles.data.toList)])∧Below W.heap.size W w'):=Lh (fun W=>by
     have h:=l03TakeF_any rack tiles W (by omega) (by omega)
     rw [take_has a2 b2 (List.all_eq_true.1 b1)] at h
     exact h)
    have HE2:Hid (tiles.size=0→exchOf bag.data.toList rack.data.toList tiles.data.toList=([],[],2)):=Lh (fun h=>exch2 hx (by rw [htl];exact h))
    have HE3:Hid (¬ tiles.size=0→hasT rack.data.toList tiles.data.toList=false→exchOf bag.data.toList rack.data.toList tiles.data.toList=([],[],3)):=Lh (fun h h4=>exch3 hx (by rw [htl];exact h) h4)
    have HE4:Hid (¬ tiles.size=0→hasT rack.data.toList tiles.data.toList=true→bag.size < 7→exchOf bag.data.toList rack.data.toList tiles.data.toList=([],[],6)):=Lh (fun h h4 h5=>exch4 hx (by rw [htl];exact h) h4 (by rw [hgl];exact h5))
    have HE5:Hid (¬ tiles.size=0→hasT rack.data.toList tiles.data.toList=true→¬ bag.size < 7→exchOf bag.data.toList rack.data.toList tiles.data.toList=(newRack bag.data.toList rack.data.toList tiles.data.toList,newBag bag.data.toList tiles.data.toList,0)∧Exch bag.data.toList rack.data.toList tiles.data.toList):=Lh (fun h h4 h5=>⟨exch5 hx (by rw [htl];exact h) h4 (by rw [hgl];exact h5),⟨h1,h2,h3,by omega,h4,by omega⟩⟩)
    clear h1 h2 h3 hx r1 r2 a1 a2 b1 b2 b3 g3 htl hgl
    go_enter Tryz.func30,Tryz.ntmps30
    go_wp2_with fail
    refine (HB0.out _).mono ?_
    rintro e w' ⟨rfl,rfl⟩
    go_wp2_with fail
    refine (HR0.out _).mono ?_
    rintro e w2 ⟨rfl,hd⟩
    replace hb:=hb.trans (hd.mono hb.size)
    clear hd
    go_wp2_with fail
    refine (HP0.out _).mono ?_
    rintro e w3 ⟨rfl,hd⟩
    replace hb:=hb.trans (hd.mono hb.size)
    clear hd
    clear HB0 HR0 HP0
    by_cases h4:tiles.size=0
    ·have HW:=Lh (HE2.out h4)
     have e4:=text_nil h4
     clear h4
     go_wp2
     go_ret3
     exact exch_post HW.out rfl hb
    ·obtain ⟨e4,f4⟩:=text_some h4
     have HE3:=Lh (HE3.out h4)
     have HE4:=Lh (HE4.out h4)
     have HE5:=Lh (HE5.out h4)
     go_wp2_with fail
     refine (HTK.out _).mono ?_
     rintro e w4 ⟨rfl,hd⟩
     replace hb:=hb.trans (hd.mono hb.size)
     clear hd
     clear HTK
     cases h5:hasT rack.data.toList tiles.data.toList with
     | false =>
      have HW:=Lh (HE3.out h5)
      clear h5 h4
      go_wp2
      go_ret3
      exact exch_post HW.out rfl hb
     | true =>
      by_cases h6:bag.size < 7
      ·have HW:=Lh (HE4.out h5 h6)
       clear h5 h4
       go_wp2
       go_ret3
       exact exch_post HW.out rfl hb
      ·obtain ⟨hw,hex⟩:=HE5.out h5 h6
       have HW:=Lh hw
       have hle:tiles.size≤bag.size:=by
        have h7:=hex.rest_len
        have h8:rack.data.toList.length=rack.size:=by simp
        have h9:tiles.data.toList.length=tiles.size:=by simp
        omega
       have hrl:(takeR tiles.data.toList rack.data.toList).length≤7:=by
        have h7:=(take_rest (rack_parts hex.grack).1 hex.gtiles hex.has).1.length_eq
        have h8:rack.data.toList.length=rack.size:=by simp
        rw [List.length_append] at h7
        omega
       have z1:(bag.extract 0 tiles.size).size=tiles.size:=by rw [ByteArray.size_extract];omega
       have z2:(bag.extract tiles.size bag.size).size=bag.size - tiles.size:=by rw [ByteArray.size_extract];omega
       have z3:(mkB (takeR tiles.data.toList rack.data.toList)).size≤7:=by rw [mkB_size];exact hrl
       have HSO:Hid (∀ W,Calls Tryz.prog 71 #[.string (mkB (takeR tiles.data.toList rack.data.toList)++bag.extract 0 tiles.size)] W fun e w'=>e=.returned (.string (mkB (newRack bag.data.toList rack.data.toList tiles.data.toList)))∧Below W.heap.size W w'):=Lh (fun W=>by
        have e0:(mkB (takeR tiles.data.toList rack.data.toList)++bag.extract 0 tiles.size).data.toList=takeR tiles.data.toList rack.data.toList++bag.data.toList.take tiles.data.toList.length:=by rw [cat_mk,mkB_data,mkB_data,tk_data,show tiles.data.toList.length=tiles.size by simp]
        have h:=l03Sort_any (mkB (takeR tiles.data.toList rack.data.toList)++bag.extract 0 tiles.size) W (by rw [ByteArray.size_append];omega)
        rw [e0] at h
        exact h.mono fun e w' ⟨R,g1,g2,g3,g4⟩=>⟨by rw [g1,hex.sorted_of g2 g3],g4⟩)
       have HNB:Hid (bag.extract tiles.size bag.size++tiles=mkB (newBag bag.data.toList tiles.data.toList)):=Lh (by
        unfold newBag
        rw [cat_mk,dp_data,show tiles.data.toList.length=tiles.size by simp])
       clear h4 hw hex hrl
       generalize newRack bag.data.toList rack.data.toList tiles.data.toList=nr at *
       generalize newBag bag.data.toList tiles.data.toList=nb at *
       generalize takeR tiles.data.toList rack.data.toList=rr at *
       go_upto_region 11 with fail
       refine wp_region_quiet_below (by kernel_rfl) (by kernel_rfl) ?_
       repeat (go_big_quiet_step ((first | (go_at_call 71;exact Calls.regrown_of (HSO.out _)))))
       refine wpQuiet_nil ?_
       intro wx hw'
       obtain ⟨⟨dq,oq⟩,hw''⟩:=hw'
       have hd:=below_regrown w4 dq oq
       rw [← hw''] at hd
       clear hw''
       replace hb:=hb.trans (hd.mono hb.size)
       clear hd
       go_wp2
       go_ret3
       exact exch_post HW.out (by rw [← HNB.out];rfl) hb
theorem implExchangeTiles_any (bag rack tiles:ByteArray) (w:World) (hgs:bag.size≤9223372036854775807) (hrs:rack.size≤9223372036854775807) (hts:tiles.size≤9223372036854775807) :
  Calls Tryz.prog 40 #[.string bag,.string rack,.string tiles] w (ExchPost (exchOf bag.data.toList rack.data.toList tiles.data.toList) w):=by
 have HB0:=Lh (fun W=>ValidBag_any bag W hgs)
 have HR0:Hid (∀ W,Calls Tryz.prog 83 #[.string rack] W fun e w'=>e=.returned (.bool (rackOk rack.data.toList))∧Below W.heap.size W w'):=Lh (fun W=>(ValidRack_any rack W hrs).mono (by
  rintro e w' ⟨h1,h2⟩
  exact ⟨h1,h2.below _⟩))
 have HP0:Hid (∀ W,Calls Tryz.prog 38 #[.string tiles] W fun e w'=>e=.returned (.bool (pileOk tiles.data.toList))∧Below W.heap.size W w'):=Lh (fun W=>(ValidPile_any tiles W hts).mono (by
  rintro e w' ⟨h1,h2⟩
  exact ⟨h1,h2.below _⟩))
 have hb:Below w.heap.size w w:=Below.refl _ _
 cases h1:bagOk bag.data.toList with
 | false =>
  have HW:=Lh (exch1 (bag:=bag.data.toList) (rack:=rack.data.toList) (tiles:=tiles.data.toList) (by rw [h1];rintro ⟨h,_⟩;cases h))
  rw [h1] at HB0
  clear h1 HR0 HP0
  go_enter Tryz.func40,Tryz.ntmps40
  go_wp2_with fail
  refine (HB0.out _).mono ?_
  rintro e w' ⟨rfl,rfl⟩
  go_wp2
  go_ret3
  exact exch_post HW.out rfl hb
 | true =>
  cases h2:rackOk rack.data.toList with
  | false =>
   have HW:=Lh (exch1 (bag:=bag.data.toList) (rack:=rack.data.toList) (tiles:=tiles.data.toList) (by rw [h2];rintro ⟨_,h,_⟩;cases h))
   rw [h1] at HB0
   rw [h2] at HR0
   clear h1 h2 HP0
   go_enter Tryz.func40,Tryz.ntmps40
   go_wp2_with fail
   refine (HB0.out _).mono ?_
   rintro e w' ⟨rfl,rfl⟩
   go_wp2_with fail
   refine (HR0.out _).mono ?_
   rintro e w2 ⟨rfl,hd⟩
   replace hb:=hb.trans (hd.mono hb.size)
   clear hd
   go_wp2
   go_ret3
   exact exch_post HW.out rfl hb
  | true =>
   cases h3:pileOk tiles.data.toList with
   | false =>
    have HW:=Lh (exch1 (bag:=bag.data.toList) (rack:=rack.data.toList) (tiles:=tiles.data.toList) (by rw [h3];rintro ⟨_,_,h⟩;cases h))
    rw [h1] at HB0
    rw [h2] at HR0
    rw [h3] at HP0
    clear h1 h2 h3
    go_enter Tryz.func40,Tryz.ntmps40
    go_wp2_with fail
    refine (HB0.out _).mono ?_
    rintro e w' ⟨rfl,rfl⟩
    go_wp2_with fail
    refine (HR0.out _).mono ?_
    rintro e w2 ⟨rfl,hd⟩
    replace hb:=hb.trans (hd.mono hb.size)
    clear hd
    go_wp2_with fail
    refine (HP0.out _).mono ?_
    rintro e w3 ⟨rfl,hd⟩
    replace hb:=hb.trans (hd.mono hb.size)
    clear hd
    go_wp2
    go_ret3
    exact exch_post HW.out rfl hb
   | true =>
    have hx:bagOk bag.data.toList=true∧rackOk rack.data.toList=true∧pileOk tiles.data.toList=true:=⟨h1,h2,h3⟩
    rw [h1] at HB0
    rw [h2] at HR0
    rw [h3] at HP0
    obtain ⟨r1,r2⟩:=rack_parts h2
    obtain ⟨a1,a2,_⟩:=pile_parts r1
    obtain ⟨b1,b2,b3⟩:=pile_parts h3
    have g3:=(bag_parts h1).2
    have hrz:rack.size≤7:=by simpa using r2
    have htz:tiles.size≤120:=by simpa using b3
    have hgz:bag.size≤120:=by simpa using g3
    have htl:tiles.data.toList.length=tiles.size:=by simp
    have hgl:bag.data.toList.length=bag.size:=by simp
    have HTK:=Lh (fun W=>without_any rack tiles W (by omega) (by omega) a1 b1)
    have HE2:Hid (tiles.size=0→exchOf bag.data.toList rack.data.toList tiles.data.toList=([],[],2)):=Lh (fun h=>exch2 hx (by rw [htl];exact h))
    have HE3:Hid (¬ tiles.size=0→hasT rack.data.toList tiles.data.toList=false→exchOf bag.data.toList rack.data.toList tiles.data.toList=([],[],3)):=Lh (fun h h4=>exch3 hx (by rw [htl];exact h) h4)
    have HE4:Hid (¬ tiles.size=0→hasT rack.data.toList tiles.data.toList=true→bag.size < 7→exchOf bag.data.toList rack.data.toList tiles.data.toList=([],[],6)):=Lh (fun h h4 h5=>exch4 hx (by rw [htl];exact h) h4 (by rw [hgl];exact h5))
    have HE5:Hid (¬ tiles.size=0→hasT rack.data.toList tiles.data.toList=true→¬ bag.size < 7→exchOf bag.data.toList rack.data.toList tiles.data.toList=(newRack bag.data.toList rack.data.toList tiles.data.toList,newBag bag.data.toList tiles.data.toList,0)∧Exch bag.data.toList rack.data.toList tiles.data.toList):=Lh (fun h h4 h5=>⟨exch5 hx (by rw [htl];exact h) h4 (by rw [hgl];exact h5),⟨h1,h2,h3,by omega,h4,by omega⟩⟩)
    clear h1 h2 h3 hx r1 r2 a1 a2 b1 b2 b3 g3 htl hgl
    go_enter Tryz.func40,Tryz.ntmps40
    go_wp2_with fail
    refine (HB0.out _).mono ?_
    rintro e w' ⟨rfl,rfl⟩
    go_wp2_with fail
    refine (HR0.out _).mono ?_
    rintro e w2 ⟨rfl,hd⟩
    replace hb:=hb.trans (hd.mono hb.size)
    clear hd
    go_wp2_with fail
    refine (HP0.out _).mono ?_
    rintro e w3 ⟨rfl,hd⟩
    replace hb:=hb.trans (hd.mono hb.size)
    clear hd
    clear HB0 HR0 HP0
    by_cases h4:tiles.size=0
    ·have HW:=Lh (HE2.out h4)
     have e4:=text_nil h4
     clear h4
     go_wp2
     go_ret3
     exact exch_post HW.out rfl hb
    ·obtain ⟨e4,f4⟩:=text_some h4
     have HE3:=Lh (HE3.out h4)
     have HE4:=Lh (HE4.out h4)
     have HE5:=Lh (HE5.out h4)
     go_wp2_with fail
     refine (HTK.out _).mono ?_
     rintro e w4 ⟨rfl,hd⟩
     replace hb:=hb.trans (hd.mono hb.size)
     clear hd
     clear HTK
     cases h5:hasT rack.data.toList tiles.data.toList with
     | false =>
      have HW:=Lh (HE3.out h5)
      clear h5 h4
      go_wp2
      go_ret3
      exact exch_post HW.out rfl hb
     | true =>
      by_cases h6:bag.size < 7
      ·have HW:=Lh (HE4.out h5 h6)
       clear h5 h4
       go_wp2
       go_ret3
       exact exch_post HW.out rfl hb
      ·obtain ⟨hw,hex⟩:=HE5.out h5 h6
       have HW:=Lh hw
       have h9:tiles.data.toList.length=tiles.size:=by simp
       have hll:=hex.rest_len
       have h8:rack.data.toList.length=rack.size:=by simp
       have hle:tiles.size≤bag.size:=by omega
       have z1:(bag.extract 0 tiles.size).size=tiles.size:=by rw [ByteArray.size_extract];omega
       have z2:(bag.extract tiles.size bag.size).size=bag.size - tiles.size:=by rw [ByteArray.size_extract];omega
       have z3:(mkB (restL rack.data.toList tiles.data.toList)).size≤7:=by rw [mkB_size];omega
       have HSO:Hid (∀ W,Calls Tryz.prog 85 #[.string (mkB (restL rack.data.toList tiles.data.toList)++bag.extract 0 tiles.size)] W (StrPost W (newRack bag.data.toList rack.data.toList tiles.data.toList))):=Lh (fun W=>by
        have hd0:(mkB (restL rack.data.toList tiles.data.toList)++bag.extract 0 tiles.size).data.toList=restL rack.data.toList tiles.data.toList++bag.data.toList.take tiles.data.toList.length:=by rw [cat_mk,mkB_data,mkB_data,tk_data,h9]
        have h:=sorted_any (mkB (restL rack.data.toList tiles.data.toList)++bag.extract 0 tiles.size) W (by rw [ByteArray.size_append];omega) (by rw [hd0];exact hex.new_all)
        rw [hd0] at h
        exact h)
       have hcl:(newBag bag.data.toList tiles.data.toList).length=bag.size:=by have:=hex.rack_len.2;simpa using this
       have HNB:Hid (Lib.byteCells (bag.extract tiles.size bag.size).data.toList++Lib.byteCells tiles.data.toList=(newBag bag.data.toList tiles.data.toList).flatMap U8.enc):=Lh (by
        unfold newBag
        rw [dp_data,h9,u8_flat]
        unfold Lib.byteCells
        rw [List.map_append])
       clear hw hex hll h8 h9
       obtain ⟨cur,hcur⟩:∃ cur,cur=madeCells #[.int .u8 0] bag.size:=⟨_,rfl⟩
       have hcs:cur.size=bag.size:=by rw [hcur,size_madeCells]
       have hmk:=run_make_row' (P:=Tryz.prog) 111 5 (.int .u8 0) 1 Tryz.underlying111 (by kernel_rfl) (by kernel_rfl) .i64 .i64 bag.size (by omega) (by omega) w4
       rw [← hcur] at hmk
       clear hcur
       have hg5:(w4.alloc (.cells cur 5)).heap[w4.heap.size]?=some (.cells cur 5 (0,0)):=heap_alloc_new w4 _
       have hd5:Below w4.heap.size w4 (w4.alloc (.cells cur 5)):=(Below.refl _ _).alloc (Nat.le_refl _) _
       have hlt5:=hb.size
       go_upto_region 11 with fail
       clear hmk
       replace hb:=hb.trans (hd5.mono hlt5)
       clear hd5
       generalize w4.alloc (.cells cur 5)=w5 at *
       generalize w4.heap.size=g5 at *
       obtain ⟨s1,hs1⟩:∃ s1,s1=bag.extract tiles.size bag.size:=⟨_,rfl⟩
       have hcp:=Lib.run_copy_row_string (P:=Tryz.prog) w5 111 9 3 5 g5 0 bag.size bag.size (bag.extract tiles.size bag.size) cur 5 Tryz.underlying111 (by kernel_rfl) hg5 (by omega) (by omega)
       have hg6:=setRow_heap w5 g5 cur (cur.toList.take 0++Lib.byteCells (bag.extract tiles.size bag.size).data.toList++cur.toList.drop (0+(bag.extract tiles.size bag.size).size)).toArray 5 (0,0) hg5
       have hb6:=below_setRow hb hlt5 (cur.toList.take 0++Lib.byteCells (bag.extract tiles.size bag.size).data.toList++cur.toList.drop (0+(bag.extract tiles.size bag.size).size)).toArray
       generalize w5.setRow g5 (cur.toList.take 0++Lib.byteCells (bag.extract tiles.size bag.size).data.toList++cur.toList.drop (0+(bag.extract tiles.size bag.size).size)).toArray=w6 at hcp hg6 hb6
       go_upto_region 12 with fail
       clear hcp hb hg5
       have hpos:0 < tiles.size:=by omega
       rw [z2] at hg6
       generalize hm:bag.size - tiles.size=m at *
       have hm1:m+tiles.size=bag.size:=by omega
       have hm2:m < bag.size:=by omega
       have hlc:(Lib.byteCells (bag.extract tiles.size bag.size).data.toList).length=m:=by rw [Lib.byteCells_length,← z2];simp
       obtain ⟨cur2,hc2⟩:∃ cur2,cur2=(List.take 0 cur.toList++Lib.byteCells (bag.extract tiles.size bag.size).data.toList++List.drop (0+m) cur.toList).toArray:=⟨_,rfl⟩
       rw [← hc2] at hg6
       have hs2:cur2.size=bag.size:=by
        rw [hc2]
        simp only [List.take_zero,List.nil_append,Nat.zero_add,List.size_toArray,List.length_append,hlc,List.length_drop,Array.length_toList,hcs]
        omega
       have hcp:=Lib.run_copy_row_string (P:=Tryz.prog) w6 111 9 3 5 g5 m (bag.size - m) (bag.size - m) tiles cur2 5 Tryz.underlying111 (by kernel_rfl) hg6 (by omega) (by omega)
       have hfl:(cur2.toList.take m++Lib.byteCells tiles.data.toList++cur2.toList.drop (m+tiles.size))=(newBag bag.data.toList tiles.data.toList).flatMap U8.enc:=by
        rw [← HNB.out,List.drop_of_length_le (by rw [Array.length_toList];omega),List.append_nil,hc2]
        simp only [List.take_zero,List.nil_append,List.take_append,hlc,Nat.sub_self,List.take_of_length_le (Nat.le_of_eq hlc),List.append_nil]
       rw [hfl] at hcp
       have hg7:=setRow_heap w6 g5 cur2 ((newBag bag.data.toList tiles.data.toList).flatMap U8.enc).toArray 5 (0,0) hg6
       have hb7:=below_setRow hb6 hlt5 ((newBag bag.data.toList tiles.data.toList).flatMap U8.enc).toArray
       generalize w6.setRow g5 ((newBag bag.data.toList tiles.data.toList).flatMap U8.enc).toArray=w7 at hcp hg7 hb7
       go_upto_region 13 with fail
       clear hcp hb6 hg6 hfl hc2 hs2 hlc hcs
       have hfm:((newBag bag.data.toList tiles.data.toList).flatMap U8.enc).length=bag.size:=by rw [u8_flat,List.length_map,hcl]
       have HO7:Hid (w7.ownsRow w.heap.size 5 1 (.slice (some ⟨g5,0,none⟩) bag.size bag.size) bag.size ((newBag bag.data.toList tiles.data.toList).flatMap U8.enc)):=Lh ⟨by rw [hfm,Nat.mul_one],.inr ⟨g5,bag.size,_,rfl,hlt5,hg7,Nat.le_refl _,by unfold maxLen;omega,by rw [List.size_toArray,hfm,Nat.mul_one],by rw [Nat.mul_one];exact List.take_of_length_le (Nat.le_of_eq hfm)⟩⟩
       have HCL:=Lh hcl.symm
       have hd:Below w7.heap.size w7 w7.drew:=(Below.refl _ _).drew
       replace HO7:=Lh (own_below HO7.out hd)
       have hb:=hb7.trans (hd.mono hb7.size)
       clear hg7 hb7 hd hfm hcl hlt5
       generalize newRack bag.data.toList rack.data.toList tiles.data.toList=nr at *
       generalize newBag bag.data.toList tiles.data.toList=nb at *
       generalize restL rack.data.toList tiles.data.toList=rr at *
       have z4:(mkB rr).size+tiles.size≤9223372036854775807:=by omega
       refine wp_region_held_drew (S:=fun w'=>w'.ownsRow w.heap.size 5 1 (.slice (some ⟨g5,0,none⟩) bag.size bag.size) bag.size (nb.flatMap U8.enc)) (by kernel_rfl) HO7.out (fun hHeld=>?_)
       generalize w7.drew=wd at *
       refine slotA 0 57 (.string (mkB rr)) ?_
       simp only [S3]
       refine slotA 1 58 (.string bag) ?_
       simp only [S3]
       refine slotA 2 59 (.string tiles) ?_
       simp only [S3]
       refine slotA 3 60 (.int .i64 tiles.size) ?_
       simp only [S3]
       refine slotA 4 61 (.string (bag.extract 0 tiles.size)) ?_
       simp only [S3]
       refine slotA 5 62 (.string (mkB rr++bag.extract 0 tiles.size)) ?_
       simp only [S3]
       refine slotA 7 64 (.slice (some ⟨g5,0,none⟩) bag.size bag.size) ?_
       simp only [S3]
       refine slotA 8 65 (.string (mkB nb)) ?_ (hy:=Or.inl ⟨by rfl,fun w' hS=>by have c9:=own_bytes hS HCL.out;go_simp⟩)
       simp only [S3]
       refine wpAnyH_ready (rs:=[6]) (by kernel_rfl) (by simp) ?_
       refine AllReadyH.cons (o:=_) rfl (fun K hK=>?_) AllReadyH.nil
       go_simp
       refine (HSO.out _).mono ?_
       rintro e w8 ⟨rfl,hd⟩
       have hH8:=own_below hHeld hd
       replace hb:=hb.trans (hd.mono hb.size)
       clear hd
       go_wp2_with fail
       refine hK.out _ _ hH8 (fun hHeld2=>?_)
       clear hK K hHeld HO7 hH8
       refine slotA 9 6 (.string (mkB nr)) ?_
       simp only [S3]
       refine slotA 10 7 (.string (mkB nb)) ?_
       simp only [S3]
       refine slotA 11 8 (.int .i64 0) ?_
       simp only [S3]
       refine wpAnyH_done (by kernel_rfl) ?_ _
       clear hHeld2
       go_wp2
       go_ret3
       exact exch_post HW.out rfl hb
end Go.Proofs.YtkjhapbjdjcipaaGreatDoor
set_option maxRecDepth 100000
set_option maxHeartbeats 8000000
namespace Go.Proofs.YtkjhapbjdjcipaaGreatDoor
open Go.ChangeShapes Go.WideShapes Go.ChangeAt Go.RowKit Go.Sort

theorem racks_cell {w:World} {base c:Nat} {a:Option Addr} {ms:List ByteArray} (h:TZ w base a c ms) (hl:ms.length=2):∃ gb,a=some ⟨gb,0,none⟩∧w.cell? ⟨gb,0,none⟩=some (.string (ms.getD 0 ⟨#[]⟩))∧w.cell? ⟨gb,1,none⟩=some (.string (ms.getD 1 ⟨#[]⟩))∧w.frozen? ⟨gb,0,none⟩=false∧w.frozen? ⟨gb,1,none⟩=false:=by
 obtain ⟨gb,rfl,_,_,ho⟩:=h.block (by omega)
 match ms,hl with
 | [a,b],_=>exact ⟨gb,rfl,ho.cellAt 0 (by show 0 < 2;decide),ho.cellAt 1 (by show 1 < 2;decide),ho.frozenAt 0,ho.frozenAt 1⟩
theorem swap_waits {x:Gam} {r b:List UInt8} (h:¬ (mkB b).size=0):(x.swap1 r b).waits=false:=waits_no h
theorem Gam.swap_zero {x:Gam} {r b:List UInt8} {kind k:Int} (h:¬ (mkB b).size=0) (h6:¬ x.zeros+1=6):(x.swap1 r b).zero2 kind k=(x.swap1 r b).idle kind k:=Gam.zero2_no (by
 rw [swap_waits h]
 rintro (h | h)
 ·cases h
 ·exact h6 h)
theorem Gam.swap_zero6 {x:Gam} {r b:List UInt8} {kind k:Int} (h6:x.zeros+1=6):(x.swap1 r b).zero2 kind k=((x.swap1 r b).idle kind k).settled:=Gam.zero2_yes (.inr h6)
theorem specExchange_any (x:Gam) (p:GaA) (s:ByteArray) (k:Int) (w:World) (ha:x.At p w) (hf:x.fit) (hs:x.small) (hss:s.size≤1048576) :
  Calls Tryz.prog 8 #[.agg (gcells x p).toArray,.string s,.int .i64 k] w (TurnPost (x.swapOf s k) w):=by
 have hb:Below w.heap.size w ((w.alloc (.cells (gcells x p).toArray 48)).alloc (.cells gnil.toArray 48)):=((Below.refl _ _).alloc (Nat.le_refl _) _).alloc (by simp) _
 have HG:Hid (GAt ((w.alloc (.cells (gcells x p).toArray 48)).alloc (.cells gnil.toArray 48)) w.heap.size x p):=Lh ((GAt.new w x p 48 ha).kept ((Below.refl _ _).alloc (Nat.le_refl _) _))
 have VI:=Lh (VarAt.kept (VarAt.new w 48 (gcells x p)) ((Below.refl _ _).alloc (Nat.le_refl _) (.cells gnil.toArray 48)))
 have VO:Hid (VarAt ((w.alloc (.cells (gcells x p).toArray 48)).alloc (.cells gnil.toArray 48)) (w.heap.size+1) 48 gnil):=by
  have:=VarAt.new (w.alloc (.cells (gcells x p).toArray 48)) 48 gnil
  rw [World.size_alloc] at this
  exact Lh this
 have HBG:Hid (∀ W,GAt W w.heap.size x p→Calls Tryz.prog 28 #[.pointer (some ⟨w.heap.size,0,none⟩),.int .i64 k] W fun e w'=>e=.returned (.int .i64 (x.begin k))∧Below W.heap.size W w'):=Lh (fun W h=>l18Begin_any x p w.heap.size k W h hf)
 have HPL:Hid (∀ W,Calls Tryz.prog 29 #[.string s] W fun e w'=>e=.returned (.bool (pileOk s.data.toList))∧Below W.heap.size W w'):=Lh (fun W=>(l03Pile_any s W (by omega)).mono (by
  rintro e w' ⟨h1,h2⟩
  exact ⟨h1,h2.below _⟩))
 have HOW:Hid (∀ W,GAt W w.heap.size x p→Calls Tryz.prog 31 #[.pointer (some ⟨w.heap.size,0,none⟩)] W (GamPost x W)):=Lh (fun W h=>l18Own_any x p w.heap.size W h hs)
 have HFT:=Lh hf
 clear ha hf hs
 obtain ⟨gc,hgc⟩:∃ gc,gc=gcells x p:=⟨_,rfl⟩
 have HGC:Hid (gc=gcells x p):=Lh hgc
 rw [← hgc]
 rw [← hgc] at HG VI VO hb
 clear hgc
 by_cases h0:x.begin k=0
 ·have hbn:=Gam.begin_go h0
  have hfi:=Gam.fine hbn.ok
  have hrl:=hfi.racks
  have hgs:x.bag.size≤9223372036854775807:=HFT.out.2.2.1
  have hpl:=hfi.player
  have hrs:(x.rack x.player.toNat).size≤9223372036854775807:=by
   have h7:=hbn.able.rack x.player.toNat (by omega)
   omega
  have HEX0:=Lh (fun W=>specExchangeTiles_any x.bag (x.rack x.player.toNat) s W hgs hrs (by omega))
  have HEQ:Hid (x.exch s=exchOf x.bag.data.toList (x.rack x.player.toNat).data.toList s.data.toList):=Lh rfl
  rw [← HEQ.out] at HEX0
  obtain ⟨Y,hY⟩:∃ Y,Y=(x.swap1 (x.exch s).1 (x.exch s).2.1).zero2 2 k:=⟨_,rfl⟩
  have HXN0:Hid (¬ (x.exch s).2.2=0→x.swapOf s k=(Gam.none,(x.exch s).2.2)):=Lh (fun h=>by
   cases hp:pileOk s.data.toList with
   | true=>exact Gam.swapC hp h0 h
   | false =>
    rw [Gam.swapA hp,HEQ.out,exch1 (by rw [hp];rintro ⟨_,_,h⟩;cases h)])
  have HX00:Hid ((x.exch s).2.2=0→x.swapOf s k=(Y,0)∧∀ q g base W,GBox W base g (x.swap1 (x.exch s).1 (x.exch s).2.1) q→Calls Tryz.prog 32 #[.pointer (some ⟨g,0,none⟩),.int .i64 2,.int .i64 k] W fun e w'=>e=.returned (.tuple #[])∧∃ q',GBox w' base g Y q'∧Below base W w'):=Lh (fun h=>by
   obtain ⟨h1,h2⟩:=exch_of h
   refine ⟨by rw [Gam.swapD h1.gtiles h0 h,hY],fun q g base W hg=>?_⟩
   rw [hY]
   refine l18Zero_any _ q g base 2 k W hg (Gam.swap1_able hbn.able ?_)
   rw [HEQ.out,h2]
   exact h1.rack_len.1)
  clear HFT HEQ hY
  obtain ⟨R,hR⟩:∃ R,R=x.rack x.player.toNat:=⟨_,rfl⟩
  rw [← hR] at HEX0
  have he'0:∀ pl:Nat,pl=x.player.toNat→({ x with racks:=x.racks.set pl (mkB (x.exch s).1),bag:=mkB (x.exch s).2.1 }:Gam)=x.swap1 (x.exch s).1 (x.exch s).2.1:=fun pl h=>by subst h;rfl
  have HE0:=Lh he'0
  clear he'0 hrs hgs hbn hfi
  unfold ExchPost at HEX0
  have HX0:=HX00
  have HXN:=HXN0
  have HEX:=HEX0
  clear HX00 HXN0 HEX0
  generalize (x.exch s).2.2=c at *
  obtain ⟨yr,hyr⟩:∃ yr,yr=x.swap1 (x.exch s).1 (x.exch s).2.1:=⟨_,rfl⟩
  rw [← hyr] at HX0 HE0
  clear hyr
  generalize mkB (x.exch s).1=a at *
  generalize mkB (x.exch s).2.1=b at *
  go_enter Tryz.func8,Tryz.ntmps8
  go_upto_region 1 with fail
  change Code.wp _ _ _ _ ((w.alloc (.cells gc.toArray 48)).alloc (.cells gnil.toArray 48))
  generalize (w.alloc (.cells gc.toArray 48)).alloc (.cells gnil.toArray 48)=w1 at *
  go_wp2_with fail
  refine (HBG.out _ HG.out).mono ?_
  rintro e w2 ⟨rfl,hd⟩
  replace hb:=hb.trans (hd.mono hb.size)
  replace HG:=Lh (HG.out.kept hd)
  replace VI:=Lh (VI.out.kept hd)
  replace VO:=Lh (VO.out.kept hd)
  clear hd
  clear HBG HPL
  rw [h0]
  clear h0
  go_upto_region 6 with fail
  obtain ⟨rb,ro,hra,hrc⟩:=(HG.out.at_.2.1).open (show 0 < x.racks.length by omega)
  obtain e | e:x.player=0∨x.player=1:=by omega
  ·have e'0:=Lh (HE0.out 0 (by rw [e];rfl))
   have c14:=HG.out.cell (i:=14) rfl
   rw [hra,hrl] at c14
   have r0:w2.cell? ⟨rb,ro+0,none⟩=some (.string R):=by rw [hR,e];exact words_cell hrc (show 0 < x.racks.length by rw [hrl];decide)
   try rw [Nat.add_zero] at r0
   clear hrc hra hR
   have b13:=cell_regrown (HG.out.cell (i:=13) rfl)
   have c17:=HG.out.cell (i:=17) rfl
   rw [e] at c17
   have b14:=cell_regrown c14
   have b17:=cell_regrown c17
   replace r0:=cell_regrown r0
   clear c14 c17
   by_cases hc:c=0
   ·have HXX:=Lh (HX0.out hc)
    subst hc
    refine wp_region_quiet_below (by kernel_rfl) (by kernel_rfl) ?_
    repeat (go_big_quiet_step ((first | (go_at_call 30;exact Calls.regrown_of (HEX.out _)) )))
    refine wpQuiet_nil ?_
    intro wx hw'
    obtain ⟨⟨dq,oq⟩,hw''⟩:=hw'
    have hd:=below_regrown w2 dq oq
    rw [← hw''] at hd
    clear hw'' b13 b14 b17 r0
    replace hb:=hb.trans (hd.mono hb.size)
    replace HG:=Lh (HG.out.kept hd)
    replace VI:=Lh (VI.out.kept hd)
    replace VO:=Lh (VO.out.kept hd)
    clear hd
    clear HX0 HXN HEX
    go_upto_region 9 with fail
    go_wp2_with fail
    refine (HOW.out _ HG.out).mono ?_
    rintro e' w3 ⟨q,rfl,hz,ho,hd⟩
    have hbase:w.heap.size+2≤wx.heap.size:=VO.out.lt
    have hd0:=hd.size
    replace hb:=hb.trans (hd.mono hb.size)
    replace VI:=Lh (VI.out.kept hd)
    replace VO:=Lh (VO.out.kept hd)
    clear hd
    obtain ⟨B4,b4⟩:=GBox.made (hz.mono hbase) ho (Nat.le_trans hbase hd0)
    have tR:=gnil_there (VarAt.new w3 48 gnil)
    have HB:=Lh B4
    replace VO:=Lh (VO.out.kept b4)
    replace VI:=Lh (VI.out.kept b4)
    replace hb:=hb.trans (b4.mono hb.size)
    clear B4 b4 hz ho hbase hd0 HOW HG
    go_upto_region 10 with (refine wpList_store_mid rfl 48 _ _ rfl w3.heap.size 0 (gcells x q).toArray rfl rfl tR (size_game _ _) (all_oneCell_toArray (gcells_all1 _ _)) ?_)
    change Code.wp _ _ _ _ ((w3.alloc (.cells gnil.toArray 48)).setCells w3.heap.size 0 (gcells x q))
    clear tR
    generalize (w3.alloc (.cells gnil.toArray 48)).setCells w3.heap.size 0 (gcells x q)=w4 at *
    generalize w3.heap.size=g at *
    obtain ⟨gb,hq,t0,t1,f0,f1⟩:=racks_cell HB.out.rows.racks hrl
    have HQ:=Lh hq
    have c14:=HB.out.cell (i:=14) rfl
    rw [hq,hrl] at c14
    have c17:=VI.out.cell (i:=17) (v:=.int .i64 x.player) (by rw [HGC.out];rfl)
    rw [e] at c17
    clear hq
    go_upto_region 11 with fail
    obtain ⟨B2,b2⟩:=HB.out.rackSet HQ.out (by rw [hrl];decide) 0 a
    replace HB:=Lh B2
    replace VO:=Lh (VO.out.front b2 (Nat.lt_succ_self _))
    replace hb:=hb.trans (b2.mono (Nat.le_add_right _ 2))
    clear B2 b2 c14 c17 t0 t1 f0 f1 HQ VI HGC
    generalize w4.setCell ⟨gb,0,none⟩ (.string a)=w5 at *
    have c13:=HB.out.cell (i:=13) (v:=.string x.bag) rfl
    have f13:=HB.out.free 13
    obtain ⟨B2,b2⟩:=HB.out.put (y:={ x with racks:=x.racks.set 0 a,bag:=b }) 13 (.string b) rfl ⟨⟨rfl,rfl,rfl⟩,rfl,rfl,rfl⟩
    replace HB:=Lh B2
    replace VO:=Lh (VO.out.front b2 (Nat.lt_succ_self _))
    replace hb:=hb.trans (b2.mono (Nat.le_add_right _ 2))
    clear B2 b2
    go_upto_region 12 with fail
    clear c13 f13
    generalize w5.setCell ⟨g,13,none⟩ (.string b)=w6 at *
    have HY:=Lh HXX.out.1
    have HZ2:=Lh HXX.out.2
    clear HXX
    go_wp2_with fail
    refine (HZ2.out _ _ _ _ (by have h:=HB.out;rw [e'0.out] at h;exact h)).mono ?_
    rintro e'' w7 ⟨rfl,q5,hg,hd⟩
    have HB5:=Lh hg
    replace VO:=Lh (VO.out.front hd (Nat.lt_succ_self _))
    replace hb:=hb.trans (hd.mono (Nat.le_add_right _ _))
    clear hg hd HZ2 HB
    have RY:=HB5.out.var.range
    have tR:=gnil_there VO.out
    have hvl:=VO.out.lt
    obtain ⟨o6,k6⟩:=VO.out.put (gcells Y q5) rfl
    have HZ:=Lh (HB5.out.rows.store k6 (Nat.lt_succ_self _))
    have HO:=Lh HB5.out.off
    have hb6:=hb.grown k6 hb.size (fun k h=>by cases h;omega)
    have rZ:=o6.range
    clear o6 k6 hb VO hvl
    go_upto_region 13 with fail
    refine wp_region_list ?_
    refine wpList_load_mid rfl 48 _ rfl g 0 rfl (gcells Y q5) _ RY Tryz.underlying48 rfl (size_game _ _) ?_
    simp only [Act.put,S3]
    refine wpList_store_mid rfl 48 _ _ rfl (w.heap.size+1) 0 (gcells Y q5).toArray rfl rfl tR (size_game _ _) (all_oneCell_toArray (gcells_all1 _ _)) ?_
    change wpList _ _ _ _ _ (w7.setCells (w.heap.size+1) 0 (gcells Y q5))
    generalize w7.setCells (w.heap.size+1) 0 (gcells Y q5)=wZ at *
    clear RY tR
    have HV:=Lh (run_loadVar_mid (P:=Tryz.prog) wZ (w.heap.size+1) 0 48 (gcells Y q5) _ rZ Tryz.underlying48 rfl (size_game _ _))
    clear rZ HB5
    go_wp2
    refine bodyPost_ret (results_cell_tmp_var Tryz.results8 _ _ _ _ rfl HV.out) rfl ?_
    exact turn_some HY.out rfl HZ.out HO.out (Nat.le_add_right _ 2) hb6
   ·have HW:=Lh (HXN.out hc)
    have hne:(c != 0)=true:=by simpa using hc
    refine wp_region_quiet_below (by kernel_rfl) (by kernel_rfl) ?_
    repeat (go_big_quiet_step ((first | (go_at_call 30;exact Calls.regrown_of (HEX.out _)) )))
    refine wpQuiet_nil ?_
    intro wx hw'
    obtain ⟨⟨dq,oq⟩,hw''⟩:=hw'
    have hd:=below_regrown w2 dq oq
    rw [← hw''] at hd
    clear hw'' b13 b14 b17 r0
    replace hb:=hb.trans (hd.mono hb.size)
    replace VO:=Lh (VO.out.kept hd)
    clear hd
    clear HX0 HXN HEX hc HOW HG HGC VI hrl
    go_upto_region 8 with fail
    have tR:=gnil_there VO.out
    obtain ⟨o6,k6⟩:=VO.out.put gnil rfl
    have hb6:=hb.grown k6 hb.size (fun k h=>by cases h;omega)
    have rZ:=o6.range
    clear o6 k6 hb VO
    refine wp_region_list ?_
    refine wpList_built rfl 48 rfl gnil.toArray built_game ?_
    refine wpList_plain rfl (fun K hK=>?_)
    simp only [Act.put,S3]
    go_simp
    refine hK _ _ ?_
    clear hK K
    refine wpList_store_mid rfl 48 _ _ rfl (w.heap.size+1) 0 gnil.toArray rfl rfl tR size_nil (all_oneCell_toArray gnil_one) ?_
    change wpList _ _ _ _ _ (wx.setCells (w.heap.size+1) 0 gnil)
    generalize wx.setCells (w.heap.size+1) 0 gnil=wZ at *
    clear tR
    have HV:=Lh (run_loadVar_mid (P:=Tryz.prog) wZ (w.heap.size+1) 0 48 gnil _ rZ Tryz.underlying48 rfl size_nil)
    clear rZ
    go_wp2
    refine bodyPost_ret (results_cell_tmp_var Tryz.results8 _ _ _ _ rfl HV.out) rfl ?_
    exact turn_none HW.out rfl hb6
  ·have e'0:=Lh (HE0.out 1 (by rw [e];rfl))
   have c14:=HG.out.cell (i:=14) rfl
   rw [hra,hrl] at c14
   have r0:w2.cell? ⟨rb,ro+1,none⟩=some (.string R):=by rw [hR,e];exact words_cell hrc (show 1 < x.racks.length by rw [hrl];decide)
   try rw [Nat.add_zero] at r0
   clear hrc hra hR
   have b13:=cell_regrown (HG.out.cell (i:=13) rfl)
   have c17:=HG.out.cell (i:=17) rfl
   rw [e] at c17
   have b14:=cell_regrown c14
   have b17:=cell_regrown c17
   replace r0:=cell_regrown r0
   clear c14 c17
   by_cases hc:c=0
   ·have HXX:=Lh (HX0.out hc)
    subst hc
    refine wp_region_quiet_below (by kernel_rfl) (by kernel_rfl) ?_
    repeat (go_big_quiet_step ((first | (go_at_call 30;exact Calls.regrown_of (HEX.out _)) )))
    refine wpQuiet_nil ?_
    intro wx hw'
    obtain ⟨⟨dq,oq⟩,hw''⟩:=hw'
    have hd:=below_regrown w2 dq oq
    rw [← hw''] at hd
    clear hw'' b13 b14 b17 r0
    replace hb:=hb.trans (hd.mono hb.size)
    replace HG:=Lh (HG.out.kept hd)
    replace VI:=Lh (VI.out.kept hd)
    replace VO:=Lh (VO.out.kept hd)
    clear hd
    clear HX0 HXN HEX
    go_upto_region 9 with fail
    go_wp2_with fail
    refine (HOW.out _ HG.out).mono ?_
    rintro e' w3 ⟨q,rfl,hz,ho,hd⟩
    have hbase:w.heap.size+2≤wx.heap.size:=VO.out.lt
    have hd0:=hd.size
    replace hb:=hb.trans (hd.mono hb.size)
    replace VI:=Lh (VI.out.kept hd)
    replace VO:=Lh (VO.out.kept hd)
    clear hd
    obtain ⟨B4,b4⟩:=GBox.made (hz.mono hbase) ho (Nat.le_trans hbase hd0)
    have tR:=gnil_there (VarAt.new w3 48 gnil)
    have HB:=Lh B4
    replace VO:=Lh (VO.out.kept b4)
    replace VI:=Lh (VI.out.kept b4)
    replace hb:=hb.trans (b4.mono hb.size)
    clear B4 b4 hz ho hbase hd0 HOW HG
    go_upto_region 10 with (refine wpList_store_mid rfl 48 _ _ rfl w3.heap.size 0 (gcells x q).toArray rfl rfl tR (size_game _ _) (all_oneCell_toArray (gcells_all1 _ _)) ?_)
    change Code.wp _ _ _ _ ((w3.alloc (.cells gnil.toArray 48)).setCells w3.heap.size 0 (gcells x q))
    clear tR
    generalize (w3.alloc (.cells gnil.toArray 48)).setCells w3.heap.size 0 (gcells x q)=w4 at *
    generalize w3.heap.size=g at *
    obtain ⟨gb,hq,t0,t1,f0,f1⟩:=racks_cell HB.out.rows.racks hrl
    have HQ:=Lh hq
    have c14:=HB.out.cell (i:=14) rfl
    rw [hq,hrl] at c14
    have c17:=VI.out.cell (i:=17) (v:=.int .i64 x.player) (by rw [HGC.out];rfl)
    rw [e] at c17
    clear hq
    go_upto_region 11 with fail
    obtain ⟨B2,b2⟩:=HB.out.rackSet HQ.out (by rw [hrl];decide) 1 a
    replace HB:=Lh B2
    replace VO:=Lh (VO.out.front b2 (Nat.lt_succ_self _))
    replace hb:=hb.trans (b2.mono (Nat.le_add_right _ 2))
    clear B2 b2 c14 c17 t0 t1 f0 f1 HQ VI HGC
    generalize w4.setCell ⟨gb,1,none⟩ (.string a)=w5 at *
    have c13:=HB.out.cell (i:=13) (v:=.string x.bag) rfl
    have f13:=HB.out.free 13
    obtain ⟨B2,b2⟩:=HB.out.put (y:={ x with racks:=x.racks.set 1 a,bag:=b }) 13 (.string b) rfl ⟨⟨rfl,rfl,rfl⟩,rfl,rfl,rfl⟩
    replace HB:=Lh B2
    replace VO:=Lh (VO.out.front b2 (Nat.lt_succ_self _))
    replace hb:=hb.trans (b2.mono (Nat.le_add_right _ 2))
    clear B2 b2
    go_upto_region 12 with fail
    clear c13 f13
    generalize w5.setCell ⟨g,13,none⟩ (.string b)=w6 at *
    have HY:=Lh HXX.out.1
    have HZ2:=Lh HXX.out.2
    clear HXX
    go_wp2_with fail
    refine (HZ2.out _ _ _ _ (by have h:=HB.out;rw [e'0.out] at h;exact h)).mono ?_
    rintro e'' w7 ⟨rfl,q5,hg,hd⟩
    have HB5:=Lh hg
    replace VO:=Lh (VO.out.front hd (Nat.lt_succ_self _))
    replace hb:=hb.trans (hd.mono (Nat.le_add_right _ _))
    clear hg hd HZ2 HB
    have RY:=HB5.out.var.range
    have tR:=gnil_there VO.out
    have hvl:=VO.out.lt
    obtain ⟨o6,k6⟩:=VO.out.put (gcells Y q5) rfl
    have HZ:=Lh (HB5.out.rows.store k6 (Nat.lt_succ_self _))
    have HO:=Lh HB5.out.off
    have hb6:=hb.grown k6 hb.size (fun k h=>by cases h;omega)
    have rZ:=o6.range
    clear o6 k6 hb VO hvl
    go_upto_region 13 with fail
    refine wp_region_list ?_
    refine wpList_load_mid rfl 48 _ rfl g 0 rfl (gcells Y q5) _ RY Tryz.underlying48 rfl (size_game _ _) ?_
    simp only [Act.put,S3]
    refine wpList_store_mid rfl 48 _ _ rfl (w.heap.size+1) 0 (gcells Y q5).toArray rfl rfl tR (size_game _ _) (all_oneCell_toArray (gcells_all1 _ _)) ?_
    change wpList _ _ _ _ _ (w7.setCells (w.heap.size+1) 0 (gcells Y q5))
    generalize w7.setCells (w.heap.size+1) 0 (gcells Y q5)=wZ at *
    clear RY tR
    have HV:=Lh (run_loadVar_mid (P:=Tryz.prog) wZ (w.heap.size+1) 0 48 (gcells Y q5) _ rZ Tryz.underlying48 rfl (size_game _ _))
    clear rZ HB5
    go_wp2
    refine bodyPost_ret (results_cell_tmp_var Tryz.results8 _ _ _ _ rfl HV.out) rfl ?_
    exact turn_some HY.out rfl HZ.out HO.out (Nat.le_add_right _ 2) hb6
   ·have HW:=Lh (HXN.out hc)
    have hne:(c != 0)=true:=by simpa using hc
    refine wp_region_quiet_below (by kernel_rfl) (by kernel_rfl) ?_
    repeat (go_big_quiet_step ((first | (go_at_call 30;exact Calls.regrown_of (HEX.out _)) )))
    refine wpQuiet_nil ?_
    intro wx hw'
    obtain ⟨⟨dq,oq⟩,hw''⟩:=hw'
    have hd:=below_regrown w2 dq oq
    rw [← hw''] at hd
    clear hw'' b13 b14 b17 r0
    replace hb:=hb.trans (hd.mono hb.size)
    replace VO:=Lh (VO.out.kept hd)
    clear hd
    clear HX0 HXN HEX hc HOW HG HGC VI hrl
    go_upto_region 8 with fail
    have tR:=gnil_there VO.out
    obtain ⟨o6,k6⟩:=VO.out.put gnil rfl
    have hb6:=hb.grown k6 hb.size (fun k h=>by cases h;omega)
    have rZ:=o6.range
    clear o6 k6 hb VO
    refine wp_region_list ?_
    refine wpList_built rfl 48 rfl gnil.toArray built_game ?_
    refine wpList_plain rfl (fun K hK=>?_)
    simp only [Act.put,S3]
    go_simp
    refine hK _ _ ?_
    clear hK K
    refine wpList_store_mid rfl 48 _ _ rfl (w.heap.size+1) 0 gnil.toArray rfl rfl tR size_nil (all_oneCell_toArray gnil_one) ?_
    change wpList _ _ _ _ _ (wx.setCells (w.heap.size+1) 0 gnil)
    generalize wx.setCells (w.heap.size+1) 0 gnil=wZ at *
    clear tR
    have HV:=Lh (run_loadVar_mid (P:=Tryz.prog) wZ (w.heap.size+1) 0 48 gnil _ rZ Tryz.underlying48 rfl size_nil)
    clear rZ
    go_wp2
    refine bodyPost_ret (results_cell_tmp_var Tryz.results8 _ _ _ _ rfl HV.out) rfl ?_
    exact turn_none HW.out rfl hb6
 ·go_enter Tryz.func8,Tryz.ntmps8
  go_upto_region 1 with fail
  change Code.wp _ _ _ _ ((w.alloc (.cells gc.toArray 48)).alloc (.cells gnil.toArray 48))
  generalize (w.alloc (.cells gc.toArray 48)).alloc (.cells gnil.toArray 48)=w1 at *
  go_wp2_with fail
  refine (HBG.out _ HG.out).mono ?_
  rintro e w2 ⟨rfl,hd⟩
  replace hb:=hb.trans (hd.mono hb.size)
  replace VO:=Lh (VO.out.kept hd)
  clear hd
  have hne:(x.begin k != 0)=true:=by simpa using h0
  clear HBG HG VI HOW HFT HGC
  cases hp:pileOk s.data.toList with
  | false =>
   have HW:=Lh (Gam.swapA (x:=x) (k:=k) hp)
   rw [hp] at HPL
   clear hp
   by_cases h1:x.begin k=1
   ·rw [h1]
    rw [h1] at hne h0
    clear h1 HPL
    go_upto_region 5 with fail
    have tR:=gnil_there VO.out
    obtain ⟨o6,k6⟩:=VO.out.put gnil rfl
    have hb6:=hb.grown k6 hb.size (fun k h=>by cases h;omega)
    have rZ:=o6.range
    clear o6 k6 hb VO
    refine wp_region_list ?_
    refine wpList_built rfl 48 rfl gnil.toArray built_game ?_
    refine wpList_plain rfl (fun K hK=>?_)
    simp only [Act.put,S3]
    go_simp
    refine hK _ _ ?_
    clear hK K
    refine wpList_store_mid rfl 48 _ _ rfl (w.heap.size+1) 0 gnil.toArray rfl rfl tR size_nil (all_oneCell_toArray gnil_one) ?_
    change wpList _ _ _ _ _ (w2.setCells (w.heap.size+1) 0 gnil)
    generalize w2.setCells (w.heap.size+1) 0 gnil=wZ at *
    clear tR
    have HV:=Lh (run_loadVar_mid (P:=Tryz.prog) wZ (w.heap.size+1) 0 48 gnil _ rZ Tryz.underlying48 rfl size_nil)
    clear rZ
    go_wp2
    refine bodyPost_ret (results_cell_tmp_var Tryz.results8 _ _ _ _ rfl HV.out) rfl ?_
    exact turn_none HW.out rfl hb6
   ·have hn1:(x.begin k != 1)=true:=by simpa using h1
    generalize x.begin k=c at *
    clear h0 h1
    go_wp2_with fail
    refine (HPL.out _).mono ?_
    rintro e w3 ⟨rfl,hd⟩
    replace hb:=hb.trans (hd.mono hb.size)
    replace VO:=Lh (VO.out.kept hd)
    clear hd
    clear HPL hne hn1
    go_upto_region 5 with fail
    have tR:=gnil_there VO.out
    obtain ⟨o6,k6⟩:=VO.out.put gnil rfl
    have hb6:=hb.grown k6 hb.size (fun k h=>by cases h;omega)
    have rZ:=o6.range
    clear o6 k6 hb VO
    refine wp_region_list ?_
    refine wpList_built rfl 48 rfl gnil.toArray built_game ?_
    refine wpList_plain rfl (fun K hK=>?_)
    simp only [Act.put,S3]
    go_simp
    refine hK _ _ ?_
    clear hK K
    refine wpList_store_mid rfl 48 _ _ rfl (w.heap.size+1) 0 gnil.toArray rfl rfl tR size_nil (all_oneCell_toArray gnil_one) ?_
    change wpList _ _ _ _ _ (w3.setCells (w.heap.size+1) 0 gnil)
    generalize w3.setCells (w.heap.size+1) 0 gnil=wZ at *
    clear tR
    have HV:=Lh (run_loadVar_mid (P:=Tryz.prog) wZ (w.heap.size+1) 0 48 gnil _ rZ Tryz.underlying48 rfl size_nil)
    clear rZ
    go_wp2
    refine bodyPost_ret (results_cell_tmp_var Tryz.results8 _ _ _ _ rfl HV.out) rfl ?_
    exact turn_none HW.out rfl hb6
  | true =>
   have HW:=Lh (Gam.swapB hp h0)
   rw [hp] at HPL
   clear hp
   by_cases h1:x.begin k=1
   ·rw [h1] at HW
    rw [h1]
    clear h1 HPL h0 hne
    go_upto_region 5 with fail
    have tR:=gnil_there VO.out
    obtain ⟨o6,k6⟩:=VO.out.put gnil rfl
    have hb6:=hb.grown k6 hb.size (fun k h=>by cases h;omega)
    have rZ:=o6.range
    clear o6 k6 hb VO
    refine wp_region_list ?_
    refine wpList_built rfl 48 rfl gnil.toArray built_game ?_
    refine wpList_plain rfl (fun K hK=>?_)
    simp only [Act.put,S3]
    go_simp
    refine hK _ _ ?_
    clear hK K
    refine wpList_store_mid rfl 48 _ _ rfl (w.heap.size+1) 0 gnil.toArray rfl rfl tR size_nil (all_oneCell_toArray gnil_one) ?_
    change wpList _ _ _ _ _ (w2.setCells (w.heap.size+1) 0 gnil)
    generalize w2.setCells (w.heap.size+1) 0 gnil=wZ at *
    clear tR
    have HV:=Lh (run_loadVar_mid (P:=Tryz.prog) wZ (w.heap.size+1) 0 48 gnil _ rZ Tryz.underlying48 rfl size_nil)
    clear rZ
    go_wp2
    refine bodyPost_ret (results_cell_tmp_var Tryz.results8 _ _ _ _ rfl HV.out) rfl ?_
    exact turn_none HW.out rfl hb6
   ·have hn1:(x.begin k != 1)=true:=by simpa using h1
    generalize x.begin k=c at *
    clear h0 h1
    go_wp2_with fail
    refine (HPL.out _).mono ?_
    rintro e w3 ⟨rfl,hd⟩
    replace hb:=hb.trans (hd.mono hb.size)
    replace VO:=Lh (VO.out.kept hd)
    clear hd
    clear HPL hn1
    go_upto_region 5 with fail
    have tR:=gnil_there VO.out
    obtain ⟨o6,k6⟩:=VO.out.put gnil rfl
    have hb6:=hb.grown k6 hb.size (fun k h=>by cases h;omega)
    have rZ:=o6.range
    clear o6 k6 hb VO
    refine wp_region_list ?_
    refine wpList_built rfl 48 rfl gnil.toArray built_game ?_
    refine wpList_plain rfl (fun K hK=>?_)
    simp only [Act.put,S3]
    go_simp
    refine hK _ _ ?_
    clear hK K
    refine wpList_store_mid rfl 48 _ _ rfl (w.heap.size+1) 0 gnil.toArray rfl rfl tR size_nil (all_oneCell_toArray gnil_one) ?_
    change wpList _ _ _ _ _ (w3.setCells (w.heap.size+1) 0 gnil)
    generalize w3.setCells (w.heap.size+1) 0 gnil=wZ at *
    clear tR
    have HV:=Lh (run_loadVar_mid (P:=Tryz.prog) wZ (w.heap.size+1) 0 48 gnil _ rZ Tryz.underlying48 rfl size_nil)
    clear rZ
    go_wp2
    refine bodyPost_ret (results_cell_tmp_var Tryz.results8 _ _ _ _ rfl HV.out) rfl ?_
    exact turn_none HW.out rfl hb6
theorem specExchangeTurn_any (x:Gam) (p:GaA) (s:ByteArray) (k:Int) (w:World) (ha:x.At p w) (hf:x.fit) (hsm:x.small) (hss:s.size≤1048576) :
  Calls Tryz.prog 8 #[.agg (gcells x p).toArray,.string s,.int .i64 k] w fun e w'=>∃ q:GaA,e=.returned (.tuple #[.agg (gcells (x.swapOf s k).1 q).toArray,.int .i64 (x.swapOf s k).2])∧(x.swapOf s k).1.At q w'∧Below w.heap.size w w' :=
 (specExchange_any x p s k w ha hf hsm hss).mono (by
  rintro e w' ⟨q,h1,h2,_,h3⟩
  exact ⟨q,h1,h2.at,h3⟩)
end Go.Proofs.YtkjhapbjdjcipaaGreatDoor
set_option maxRecDepth 100000
set_option maxHeartbeats 8000000
namespace Go.Proofs.YtkjhapbjdjcipaaGreatDoor
open Go.ChangeShapes Go.WideShapes Go.ChangeAt Go.RowKit Go.Sort

theorem implExchange_any (x:Gam) (p:GaA) (s:ByteArray) (k:Int) (w:World) (ha:x.At p w) (hf:x.fit) (hs:x.small) (htz:x.setup.tiles.letters.size≤1048576) (hwz:x.last.play.word.size≤1048576) (hss:s.size≤1048576) (hE:CEnv w) (hL:EnvL w) :
  Calls Tryz.prog 10 #[.agg (gcells x p).toArray,.string s,.int .i64 k] w (TurnPost (x.swapOf s k) w):=by
 have hb:Below w.heap.size w ((w.alloc (.cells (gcells x p).toArray 48)).alloc (.cells gnil.toArray 48)):=((Below.refl _ _).alloc (Nat.le_refl _) _).alloc (by simp) _
 have HG:Hid (GAt ((w.alloc (.cells (gcells x p).toArray 48)).alloc (.cells gnil.toArray 48)) w.heap.size x p):=Lh ((GAt.new w x p 48 ha).kept ((Below.refl _ _).alloc (Nat.le_refl _) _))
 have VI:=Lh (VarAt.kept (VarAt.new w 48 (gcells x p)) ((Below.refl _ _).alloc (Nat.le_refl _) (.cells gnil.toArray 48)))
 have VO:Hid (VarAt ((w.alloc (.cells (gcells x p).toArray 48)).alloc (.cells gnil.toArray 48)) (w.heap.size+1) 48 gnil):=by
  have:=VarAt.new (w.alloc (.cells (gcells x p).toArray 48)) 48 gnil
  rw [World.size_alloc] at this
  exact Lh this
 have HAC:Hid (∀ W,x.At p W→CEnv W→EnvL W→Calls Tryz.prog 39 #[.agg (gcells x p).toArray,.int .i64 k] W fun e w'=>e=.returned (.int .i64 (x.begin k))∧Below W.heap.size W w'):=Lh (fun W h h2 h3=>actionCode_any x p k W h hf htz hwz h2 h3)
 have HPL:Hid (∀ W,Calls Tryz.prog 38 #[.string s] W fun e w'=>e=.returned (.bool (pileOk s.data.toList))∧Below W.heap.size W w'):=Lh (fun W=>(ValidPile_any s W (by omega)).mono (by
  rintro e w' ⟨h1,h2⟩
  exact ⟨h1,h2.below _⟩))
 have HID:Hid (x.Begun k→∀ W,x.At p W→Calls Tryz.prog 41 #[.agg (gcells x p).toArray,.int .i64 2,.int .i64 k] W (BoxPost (x.idle 2 k) W)):=Lh (fun hx W h=>idle_any x p 2 k W h hs hx.able)
 have HWT:Hid (x.Wt→∀ W,x.At p W→Calls Tryz.prog 43 #[.agg (gcells x p).toArray] W fun e w'=>e=.returned (.bool x.waits)∧Below W.heap.size W w'):=Lh (fun hx W h=>waits_any x p W h hx)
 have HE:=Lh (hE.kept hb)
 have HL:=Lh (hL.kept hb)
 have HSZ:=Lh (size_game x p)
 have HFT:=Lh hf
 have HA0:=Lh ha
 clear ha hf hs htz hwz hE hL
 obtain ⟨gc,hgc⟩:∃ gc,gc=gcells x p:=⟨_,rfl⟩
 have HGC:Hid (gc=gcells x p):=Lh hgc
 rw [← hgc]
 rw [← hgc] at HG VI VO hb HE HL HSZ HAC HID HWT
 clear hgc
 cases hp:pileOk s.data.toList with
 | false =>
  have HW:=Lh (Gam.swapA (x:=x) (k:=k) hp)
  rw [hp] at HPL
  clear hp HAC HID HWT HE HL HFT
  go_enter Tryz.func10,Tryz.ntmps10
  go_upto_region 1 with fail
  change Code.wp _ _ _ _ ((w.alloc (.cells gc.toArray 48)).alloc (.cells gnil.toArray 48))
  generalize (w.alloc (.cells gc.toArray 48)).alloc (.cells gnil.toArray 48)=w1 at *
  go_wp2_with fail
  refine (HPL.out _).mono ?_
  rintro e w2 ⟨rfl,hd⟩
  replace hb:=hb.trans (hd.mono hb.size)
  replace VO:=Lh (VO.out.kept hd)
  clear hd
  clear HPL HG HGC VI HSZ
  go_upto_region 2 with fail
  have tR:=gnil_there VO.out
  obtain ⟨o6,k6⟩:=VO.out.put gnil rfl
  have hb6:=hb.grown k6 hb.size (fun k h=>by cases h;omega)
  have rZ:=o6.range
  clear o6 k6 hb VO
  refine wp_region_list ?_
  refine wpList_built rfl 48 rfl gnil.toArray built_game ?_
  simp only [Act.put,S3]
  refine wpList_store_mid rfl 48 _ _ rfl (w.heap.size+1) 0 gnil.toArray rfl rfl tR size_nil (all_oneCell_toArray gnil_one) ?_
  change wpList _ _ _ _ _ (w2.setCells (w.heap.size+1) 0 gnil)
  generalize w2.setCells (w.heap.size+1) 0 gnil=wZ at *
  clear tR
  have HV:=Lh (run_loadVar_mid (P:=Tryz.prog) wZ (w.heap.size+1) 0 48 gnil _ rZ Tryz.underlying48 rfl size_nil)
  clear rZ
  go_wp2
  refine bodyPost_ret (results_cell_tmp_var Tryz.results10 _ _ _ _ rfl HV.out) rfl ?_
  exact turn_none HW.out rfl hb6
 | true =>
  have HP:=Lh hp
  rw [hp] at HPL
  clear hp
  by_cases h0:x.begin k=0
  ·have hbn:=Gam.begin_go h0
   have hfi:=Gam.fine hbn.ok
   have hrl:=hfi.racks
   have hgs:x.bag.size≤9223372036854775807:=HFT.out.2.2.1
   have hpl:=hfi.player
   have hrs:(x.rack x.player.toNat).size≤9223372036854775807:=by
    have h7:=hbn.able.rack x.player.toNat (by omega)
    omega
   have HEX0:=Lh (fun W=>implExchangeTiles_any x.bag (x.rack x.player.toNat) s W hgs hrs (by omega))
   have HEQ:Hid (x.exch s=exchOf x.bag.data.toList (x.rack x.player.toNat).data.toList s.data.toList):=Lh rfl
   rw [← HEQ.out] at HEX0
   have HXN0:Hid (¬ (x.exch s).2.2=0→x.swapOf s k=(Gam.none,(x.exch s).2.2)):=Lh (fun h=>Gam.swapC HP.out h0 h)
   have HX60:Hid ((x.exch s).2.2=0→x.zeros+1=6→x.swapOf s k=(((x.swap1 (x.exch s).1 (x.exch s).2.1).idle 2 k).settled,0)):=Lh (fun h h6=>by rw [Gam.swapD HP.out h0 h,Gam.swap_zero6 h6])
   have HX70:Hid ((x.exch s).2.2=0→¬ x.zeros+1=6→x.swapOf s k=((x.swap1 (x.exch s).1 (x.exch s).2.1).idle 2 k,0)):=Lh (fun h h6=>by
    rw [Gam.swapD HP.out h0 h,Gam.swap_zero ?_ h6]
    obtain ⟨h1,h2⟩:=exch_of h
    rw [HEQ.out,h2]
    exact newBag_size h1)
   have HWF:Hid ((x.exch s).2.2=0→x.waits=false):=Lh (fun h=>waits_no (by
    have h1:=(exch_of h).1.seven
    have h2:x.bag.data.toList.length=x.bag.size:=by simp
    omega))
   have HST0:Hid ((x.exch s).2.2=0→∀ g q b W,GBox W (w.heap.size+2) g ((x.swap1 (x.exch s).1 (x.exch s).2.1).idle 2 k) q→Calls Tryz.prog 42 #[.pointer (some ⟨g,0,none⟩),.bool b] W fun e w'=>e=.returned (.tuple #[])∧GBox w' (w.heap.size+2) g (if b=true then ((x.swap1 (x.exch s).1 (x.exch s).2.1).idle 2 k).settled else (x.swap1 (x.exch s).1 (x.exch s).2.1).idle 2 k) q∧Below (w.heap.size+2) W w'):=Lh (fun h g q b W hg=>by
    obtain ⟨h1,h2⟩:=exch_of h
    have s0:=hbn.score0
    have s1:=hbn.score1
    refine settle_any _ q g _ b W hg (Gam.idle_cf (Gam.swap1_able hbn.able ?_)) hfi.scores ⟨?_,?_⟩ ⟨?_,?_⟩
    ·rw [HEQ.out,h2]
     exact h1.rack_len.1
    all_goals
     simp only [Gam.idle,Gam.swap1]
     omega)
   have HID:=Lh (HID.out hbn)
   have HWT:=Lh (HWT.out hfi.wt)
   clear HFT HEQ
   obtain ⟨R,hR⟩:∃ R,R=x.rack x.player.toNat:=⟨_,rfl⟩
   rw [← hR] at HEX0
   have he'0:∀ pl:Nat,pl=x.player.toNat→({ x.idle 2 k with racks:=x.racks.set pl (mkB (x.exch s).1),bag:=mkB (x.exch s).2.1 }:Gam)=(x.swap1 (x.exch s).1 (x.exch s).2.1).idle 2 k:=fun pl h=>by subst h;rfl
   have HE0:=Lh he'0
   have HZC0:Hid (∀ q:GaA,(gcells ((x.swap1 (x.exch s).1 (x.exch s).2.1).idle 2 k) q)[18]?=some (.int .i64 (x.zeros+1))):=Lh (fun _=>rfl)
   clear he'0 hrs hgs hbn hfi
   unfold ExchPost at HEX0
   have HX6:=HX60
   have HX7:=HX70
   have HXN:=HXN0
   have HEX:=HEX0
   have HST:=HST0
   have HZC:=HZC0
   clear HX60 HX70 HXN0 HEX0 HST0 HZC0
   generalize (x.exch s).2.2=c at *
   obtain ⟨yi,hyi⟩:∃ yi,yi=(x.swap1 (x.exch s).1 (x.exch s).2.1).idle 2 k:=⟨_,rfl⟩
   rw [← hyi] at HX6 HX7 HE0 HST HZC
   clear hyi
   generalize mkB (x.exch s).1=a at *
   generalize mkB (x.exch s).2.1=b at *
   go_enter Tryz.func10,Tryz.ntmps10
   go_upto_region 1 with fail
   change Code.wp _ _ _ _ ((w.alloc (.cells gc.toArray 48)).alloc (.cells gnil.toArray 48))
   generalize (w.alloc (.cells gc.toArray 48)).alloc (.cells gnil.toArray 48)=w1 at *
   go_wp2_with fail
   refine (HPL.out _).mono ?_
   rintro e1 w2 ⟨rfl,hd⟩
   replace hb:=hb.trans (hd.mono hb.size)
   replace HG:=Lh (HG.out.kept hd)
   replace VI:=Lh (VI.out.kept hd)
   replace VO:=Lh (VO.out.kept hd)
   replace HE:=Lh (HE.out.kept hd)
   replace HL:=Lh (HL.out.kept hd)
   clear hd
   clear HPL
   go_upto_region 3 with fail
   have RG:=VI.out.range
   refine wp_region_list ?_
   refine wpList_load_mid rfl 48 _ rfl w.heap.size 0 rfl gc _ RG Tryz.underlying48 rfl HSZ.out ?_
   clear RG
   go_wp2_with fail
   refine (HAC.out _ HG.out.at_ HE.out HL.out).mono ?_
   rintro e2 w3 ⟨rfl,hd⟩
   replace hb:=hb.trans (hd.mono hb.size)
   replace HG:=Lh (HG.out.kept hd)
   replace VI:=Lh (VI.out.kept hd)
   replace VO:=Lh (VO.out.kept hd)
   clear hd
   clear HAC HE HL
   rw [h0]
   clear h0
   go_upto_region 6 with fail
   obtain ⟨rb,ro,hra,hrc⟩:=(HG.out.at_.2.1).open (show 0 < x.racks.length by omega)
   obtain e | e:x.player=0∨x.player=1:=by omega
   ·have e'0:=Lh (HE0.out 0 (by rw [e];rfl))
    clear HE0
    have c14:=HG.out.cell (i:=14) rfl
    rw [hra,hrl] at c14
    have r0:w3.cell? ⟨rb,ro+0,none⟩=some (.string R):=by rw [hR,e];exact words_cell hrc (show 0 < x.racks.length by rw [hrl];decide)
    try rw [Nat.add_zero] at r0
    clear hrc hra hR
    have b13:=cell_regrown (HG.out.cell (i:=13) rfl)
    have c17:=HG.out.cell (i:=17) rfl
    rw [e] at c17
    have b14:=cell_regrown c14
    have b17:=cell_regrown c17
    replace r0:=cell_regrown r0
    clear c14 c17
    by_cases hc:c=0
    ·replace HX6:=Lh (HX6.out hc)
     replace HX7:=Lh (HX7.out hc)
     replace HST:=Lh (HST.out hc)
     have hwf:=HWF.out hc
     clear HWF HXN
     subst hc
     refine wp_region_quiet_below (by kernel_rfl) (by kernel_rfl) ?_
     repeat (go_big_quiet_step ((first | (go_at_call 40;exact Calls.regrown_of (HEX.out _)) )))
     refine wpQuiet_nil ?_
     intro wx hw'
     obtain ⟨⟨dq,oq⟩,hw''⟩:=hw'
     have hd:=below_regrown w3 dq oq
     rw [← hw''] at hd
     clear hw'' b13 b14 b17 r0
     replace hb:=hb.trans (hd.mono hb.size)
     replace HG:=Lh (HG.out.kept hd)
     replace VI:=Lh (VI.out.kept hd)
     replace VO:=Lh (VO.out.kept hd)
     clear hd
     clear HEX
     go_upto_region 9 with fail
     have RG:=VI.out.range
     refine wp_region_list ?_
     refine wpList_load_mid rfl 48 _ rfl w.heap.size 0 rfl gc _ RG Tryz.underlying48 rfl HSZ.out ?_
     clear RG
     go_wp2_with fail
     refine (HID.out _ HG.out.at_).mono ?_
     rintro e4 w4 ⟨q,g,rfl,hg,hd⟩
     have hbase:w.heap.size+2≤wx.heap.size:=VO.out.lt
     have HB:=Lh (hg.mono hbase)
     replace hb:=hb.trans (hd.mono hb.size)
     replace HG:=Lh (HG.out.kept hd)
     replace VI:=Lh (VI.out.kept hd)
     replace VO:=Lh (VO.out.kept hd)
     clear hd
     clear hg hbase HID
     go_upto_region 10 with fail
     have hd:Below w4.heap.size w4 w4.drew:=(Below.refl _ _).drew
     replace hb:=hb.trans (hd.mono hb.size)
     replace HG:=Lh (HG.out.kept hd)
     replace VI:=Lh (VI.out.kept hd)
     replace VO:=Lh (VO.out.kept hd)
     replace HB:=Lh (HB.out.kept hd)
     clear hd
     obtain ⟨gb,hq,t0,t1,f0,f1⟩:=racks_cell HB.out.rows.racks hrl
     have HQ:=Lh hq
     have c14:=HB.out.cell (i:=14) (v:=.slice q.racks.a 2 q.racks.c) (by show some (Value.slice q.racks.a x.racks.length q.racks.c)=_;rw [hrl])
     rw [hq] at c14
     have c17:=VI.out.cell (i:=17) (v:=.int .i64 0) (by rw [HGC.out];show some (Value.int .i64 x.player)=_;rw [e])
     have c13:=HB.out.cell (i:=13) (v:=.string x.bag) rfl
     have f13:=HB.out.free 13
     obtain ⟨B2,b2⟩:=HB.out.rackSet HQ.out (by show 0 < x.racks.length;rw [hrl];decide) 0 a
     have d14:=B2.cell (i:=14) (v:=.slice q.racks.a 2 q.racks.c) (by show some (Value.slice q.racks.a (x.racks.set 0 a).length q.racks.c)=_;rw [List.length_set,hrl])
     rw [hq] at d14
     have d13:=B2.cell (i:=13) (v:=.string x.bag) rfl
     have g13:=B2.free 13
     have V2:=VI.out.front b2 (Nat.lt_add_of_pos_right (by decide))
     have d17:=V2.cell (i:=17) (v:=.int .i64 0) (by rw [HGC.out];show some (Value.int .i64 x.player)=_;rw [e])
     obtain ⟨B3,b3⟩:=B2.put (y:={ x.idle 2 k with racks:=x.racks.set 0 a,bag:=b }) 13 (.string b) rfl ⟨⟨rfl,rfl,rfl⟩,rfl,rfl,rfl⟩
     have k14:=B3.cell (i:=14) (v:=.slice q.racks.a 2 q.racks.c) (by show some (Value.slice q.racks.a (x.racks.set 0 a).length q.racks.c)=_;rw [List.length_set,hrl])
     rw [hq] at k14
     have k17:=(V2.front b3 (Nat.lt_add_of_pos_right (by decide))).cell (i:=17) (v:=.int .i64 0) (by rw [HGC.out];show some (Value.int .i64 x.player)=_;rw [e])
     have HB3:=Lh B3
     have VI3:=Lh (V2.front b3 (Nat.lt_add_of_pos_right (by decide)))
     have VO3:=Lh ((VO.out.front b2 (Nat.lt_succ_self _)).front b3 (Nat.lt_succ_self _))
     have hb3:=b2.trans b3
     replace hb:=hb.trans (hb3.mono (Nat.le_add_right _ 2))
     have HAT3:=Lh (Gam.At.kept HA0.out hb)
     clear B2 b2 B3 b3 hb3 hq V2 HB HG VI VO HA0
     refine wp_region_held_drew (S:=fun w'=>w'.cell? ⟨g,14,none⟩=some (.slice (some ⟨gb,0,none⟩) 2 q.racks.c)∧w'.cell? ⟨w.heap.size,17,none⟩=some (.int .i64 0)) (by kernel_rfl) ⟨c14,c17⟩ (fun hHeld=>?_)
     generalize w4.drew=wd at *
     refine slotA 0 45 (.pointer (some ⟨g,0,none⟩)) ?_
     simp only [S3]
     refine slotA 1 46 (.pointer (some ⟨g,0,none⟩)) ?_
     simp only [S3]
     refine slotA 2 47 (.pointer (some ⟨g,14,none⟩)) ?_
     simp only [S3]
     refine slotA 3 48 (.slice (some ⟨gb,0,none⟩) 2 q.racks.c) ?_ (hy:=Or.inl ⟨by rfl,fun w' hS=>by have c9:=hS.1;go_simp⟩)
     simp only [S3]
     refine slotA 4 49 (.pointer (some ⟨w.heap.size,17,none⟩)) ?_
     simp only [S3]
     refine slotA 5 50 (.int .i64 0) ?_ (hy:=Or.inl ⟨by rfl,fun w' hS=>by have c9:=hS.2;go_simp⟩)
     simp only [S3]
     refine slotA 6 51 (.pointer (some ⟨g,0,none⟩)) ?_
     simp only [S3]
     refine slotA 7 52 (.string a) ?_
     simp only [S3]
     refine slotA 8 53 (.string b) ?_
     simp only [S3]
     refine slotA 9 54 (.pointer (some ⟨gb,0,none⟩)) ?_
     simp only [S3]
     refine wpAnyH_ready (rs:=[10]) (by kernel_rfl) (by simp) ?_
     refine AllReadyH.cons (o:=_) rfl (fun K hK=>?_) AllReadyH.nil
     go_simp
     refine hK.out _ _ ⟨d14,d17⟩ (fun _=>?_)
     clear hK K hHeld c14 c17 c13 f13 t0 t1 f0 f1
     generalize wd.setCell ⟨gb,0,none⟩ (.string a)=w5 at *
     refine slotA 11 55 (.pointer (some ⟨g,0,none⟩)) ?_
     simp only [S3]
     refine slotA 12 56 (.pointer (some ⟨g,13,none⟩)) ?_
     simp only [S3]
     refine wpAnyH_ready (rs:=[13]) (by kernel_rfl) (by simp) ?_
     refine AllReadyH.cons (o:=_) rfl (fun K hK=>?_) AllReadyH.nil
     go_simp
     refine hK.out _ _ ⟨k14,k17⟩ (fun _=>?_)
     clear hK K d14 d17 d13 g13 k14 k17
     generalize w5.setCell ⟨g,13,none⟩ (.string b)=w6 at *
     refine wpAnyH_done (by kernel_rfl) ?_ _
     have HB:Hid (GBox w6 (w.heap.size+2) g yi q):=Lh (by have h:=HB3.out;rw [e'0.out] at h;exact h)
     have VI:=VI3
     have VO:=VO3
     clear HB3 VI3 VO3 HQ
     go_upto_region 11 with fail
     have RG:=VI.out.range
     refine wp_region_list ?_
     go_wp2_with (refine wpList_load_mid rfl 48 _ rfl w.heap.size 0 rfl gc _ RG Tryz.underlying48 rfl HSZ.out ?_)
     clear RG
     go_wp2_with fail
     refine (HWT.out _ HAT3.out).mono ?_
     rintro e6 w7 ⟨rfl,hd⟩
     replace hb:=hb.trans (hd.mono hb.size)
     replace VI:=Lh (VI.out.kept hd)
     replace VO:=Lh (VO.out.kept hd)
     replace HB:=Lh (HB.out.kept hd)
     clear hd
     clear HWT HAT3
     rw [hwf]
     clear hwf
     have c18:w7.cell? ⟨g,18,none⟩=some (.int .i64 (x.zeros+1)):=HB.out.cell (HZC.out q)
     by_cases h6:x.zeros+1=6
     ·have HY:=Lh (HX6.out h6)
      rw [h6] at c18
      clear h6 HX6 HX7 HZC
      go_wp2_with fail
      refine (HST.out _ _ true _ HB.out).mono ?_
      rintro e9 w9 ⟨rfl,hg,hd⟩
      have HB5:Hid (GBox w9 (w.heap.size+2) g (yi.settled) q):=Lh hg
      replace VO:=Lh (VO.out.front hd (Nat.lt_succ_self _))
      replace hb:=hb.trans (hd.mono (Nat.le_add_right _ _))
      clear hg hd HST HB VI HSZ
      have RY:=(HB5.out).var.range
      have tR:=gnil_there VO.out
      have hvl:=VO.out.lt
      obtain ⟨o6,k6⟩:=VO.out.put (gcells yi.settled q) rfl
      have HZ:=Lh ((HB5.out).rows.store k6 (by omega))
      have HO:=Lh (HB5.out).off
      have hb6:=hb.grown k6 hb.size (fun k h=>by cases h;omega)
      have rZ:=o6.range
      clear o6 k6 hb VO hvl
      go_upto_region 12 with fail
      refine wp_region_list ?_
      refine wpList_plain rfl (fun K hK=>?_)
      go_simp
      refine hK _ _ ?_
      clear hK K
      refine wpList_plain rfl (fun K hK=>?_)
      go_simp
      refine hK _ _ ?_
      clear hK K
      refine wpList_load_mid rfl 48 _ rfl g 0 rfl (gcells yi.settled q) _ RY Tryz.underlying48 rfl (size_game _ _) ?_
      simp only [Act.put,S3]
      refine wpList_store_mid rfl 48 _ _ rfl (w.heap.size+1) 0 (gcells yi.settled q).toArray rfl rfl tR (size_game _ _) (all_oneCell_toArray (gcells_all1 _ _)) ?_
      change wpList _ _ _ _ _ (w9.setCells (w.heap.size+1) 0 (gcells yi.settled q))
      generalize w9.setCells (w.heap.size+1) 0 (gcells yi.settled q)=wZ at *
      clear RY tR
      have HV:=Lh (run_loadVar_mid (P:=Tryz.prog) wZ (w.heap.size+1) 0 48 (gcells yi.settled q) _ rZ Tryz.underlying48 rfl (size_game _ _))
      clear rZ
      go_wp2
      refine bodyPost_ret (results_cell_tmp_var Tryz.results10 _ _ _ _ rfl HV.out) rfl ?_
      exact turn_some HY.out rfl HZ.out HO.out (Nat.le_add_right _ 2) hb6
     ·have HY:=Lh (HX7.out h6)
      have b6:(x.zeros+1 == 6)=false:=by simpa using h6
      clear h6 HX6 HX7 HZC
      generalize x.zeros+1=z1 at c18 b6
      go_wp2_with fail
      refine (HST.out _ _ false _ HB.out).mono ?_
      rintro e9 w9 ⟨rfl,hg,hd⟩
      have HB5:Hid (GBox w9 (w.heap.size+2) g (yi) q):=Lh hg
      replace VO:=Lh (VO.out.front hd (Nat.lt_succ_self _))
      replace hb:=hb.trans (hd.mono (Nat.le_add_right _ _))
      clear hg hd HST HB VI HSZ
      have RY:=(HB5.out).var.range
      have tR:=gnil_there VO.out
      have hvl:=VO.out.lt
      obtain ⟨o6,k6⟩:=VO.out.put (gcells yi q) rfl
      have HZ:=Lh ((HB5.out).rows.store k6 (by omega))
      have HO:=Lh (HB5.out).off
      have hb6:=hb.grown k6 hb.size (fun k h=>by cases h;omega)
      have rZ:=o6.range
      clear o6 k6 hb VO hvl
      go_upto_region 12 with fail
      refine wp_region_list ?_
      refine wpList_plain rfl (fun K hK=>?_)
      go_simp
      refine hK _ _ ?_
      clear hK K
      refine wpList_plain rfl (fun K hK=>?_)
      go_simp
      refine hK _ _ ?_
      clear hK K
      refine wpList_load_mid rfl 48 _ rfl g 0 rfl (gcells yi q) _ RY Tryz.underlying48 rfl (size_game _ _) ?_
      simp only [Act.put,S3]
      refine wpList_store_mid rfl 48 _ _ rfl (w.heap.size+1) 0 (gcells yi q).toArray rfl rfl tR (size_game _ _) (all_oneCell_toArray (gcells_all1 _ _)) ?_
      change wpList _ _ _ _ _ (w9.setCells (w.heap.size+1) 0 (gcells yi q))
      generalize w9.setCells (w.heap.size+1) 0 (gcells yi q)=wZ at *
      clear RY tR
      have HV:=Lh (run_loadVar_mid (P:=Tryz.prog) wZ (w.heap.size+1) 0 48 (gcells yi q) _ rZ Tryz.underlying48 rfl (size_game _ _))
      clear rZ
      go_wp2
      refine bodyPost_ret (results_cell_tmp_var Tryz.results10 _ _ _ _ rfl HV.out) rfl ?_
      exact turn_some HY.out rfl HZ.out HO.out (Nat.le_add_right _ 2) hb6
    ·have HW:=Lh (HXN.out hc)
     have hne:(c != 0)=true:=by simpa using hc
     refine wp_region_quiet_below (by kernel_rfl) (by kernel_rfl) ?_
     repeat (go_big_quiet_step ((first | (go_at_call 40;exact Calls.regrown_of (HEX.out _)) )))
     refine wpQuiet_nil ?_
     intro wx hw'
     obtain ⟨⟨dq,oq⟩,hw''⟩:=hw'
     have hd:=below_regrown w3 dq oq
     rw [← hw''] at hd
     clear hw'' b13 b14 b17 r0
     replace hb:=hb.trans (hd.mono hb.size)
     replace VO:=Lh (VO.out.kept hd)
     clear hd
     clear HX6 HX7 HXN HEX hc HST HWF HID HWT HG HGC VI hrl HSZ HZC
     go_upto_region 8 with fail
     have tR:=gnil_there VO.out
     obtain ⟨o6,k6⟩:=VO.out.put gnil rfl
     have hb6:=hb.grown k6 hb.size (fun k h=>by cases h;omega)
     have rZ:=o6.range
     clear o6 k6 hb VO
     refine wp_region_list ?_
     refine wpList_built rfl 48 rfl gnil.toArray built_game ?_
     refine wpList_plain rfl (fun K hK=>?_)
     simp only [Act.put,S3]
     go_simp
     refine hK _ _ ?_
     clear hK K
     refine wpList_store_mid rfl 48 _ _ rfl (w.heap.size+1) 0 gnil.toArray rfl rfl tR size_nil (all_oneCell_toArray gnil_one) ?_
     change wpList _ _ _ _ _ (wx.setCells (w.heap.size+1) 0 gnil)
     generalize wx.setCells (w.heap.size+1) 0 gnil=wZ at *
     clear tR
     have HV:=Lh (run_loadVar_mid (P:=Tryz.prog) wZ (w.heap.size+1) 0 48 gnil _ rZ Tryz.underlying48 rfl size_nil)
     clear rZ
     go_wp2
     refine bodyPost_ret (results_cell_tmp_var Tryz.results10 _ _ _ _ rfl HV.out) rfl ?_
     exact turn_none HW.out rfl hb6
   ·have e'0:=Lh (HE0.out 1 (by rw [e];rfl))
    clear HE0
    have c14:=HG.out.cell (i:=14) rfl
    rw [hra,hrl] at c14
    have r0:w3.cell? ⟨rb,ro+1,none⟩=some (.string R):=by rw [hR,e];exact words_cell hrc (show 1 < x.racks.length by rw [hrl];decide)
    try rw [Nat.add_zero] at r0
    clear hrc hra hR
    have b13:=cell_regrown (HG.out.cell (i:=13) rfl)
    have c17:=HG.out.cell (i:=17) rfl
    rw [e] at c17
    have b14:=cell_regrown c14
    have b17:=cell_regrown c17
    replace r0:=cell_regrown r0
    clear c14 c17
    by_cases hc:c=0
    ·replace HX6:=Lh (HX6.out hc)
     replace HX7:=Lh (HX7.out hc)
     replace HST:=Lh (HST.out hc)
     have hwf:=HWF.out hc
     clear HWF HXN
     subst hc
     refine wp_region_quiet_below (by kernel_rfl) (by kernel_rfl) ?_
     repeat (go_big_quiet_step ((first | (go_at_call 40;exact Calls.regrown_of (HEX.out _)) )))
     refine wpQuiet_nil ?_
     intro wx hw'
     obtain ⟨⟨dq,oq⟩,hw''⟩:=hw'
     have hd:=below_regrown w3 dq oq
     rw [← hw''] at hd
     clear hw'' b13 b14 b17 r0
     replace hb:=hb.trans (hd.mono hb.size)
     replace HG:=Lh (HG.out.kept hd)
     replace VI:=Lh (VI.out.kept hd)
     replace VO:=Lh (VO.out.kept hd)
     clear hd
     clear HEX
     go_upto_region 9 with fail
     have RG:=VI.out.range
     refine wp_region_list ?_
     refine wpList_load_mid rfl 48 _ rfl w.heap.size 0 rfl gc _ RG Tryz.underlying48 rfl HSZ.out ?_
     clear RG
     go_wp2_with fail
     refine (HID.out _ HG.out.at_).mono ?_
     rintro e4 w4 ⟨q,g,rfl,hg,hd⟩
     have hbase:w.heap.size+2≤wx.heap.size:=VO.out.lt
     have HB:=Lh (hg.mono hbase)
     replace hb:=hb.trans (hd.mono hb.size)
     replace HG:=Lh (HG.out.kept hd)
     replace VI:=Lh (VI.out.kept hd)
     replace VO:=Lh (VO.out.kept hd)
     clear hd
     clear hg hbase HID
     go_upto_region 10 with fail
     have hd:Below w4.heap.size w4 w4.drew:=(Below.refl _ _).drew
     replace hb:=hb.trans (hd.mono hb.size)
     replace HG:=Lh (HG.out.kept hd)
     replace VI:=Lh (VI.out.kept hd)
     replace VO:=Lh (VO.out.kept hd)
     replace HB:=Lh (HB.out.kept hd)
     clear hd
     obtain ⟨gb,hq,t0,t1,f0,f1⟩:=racks_cell HB.out.rows.racks hrl
     have HQ:=Lh hq
     have c14:=HB.out.cell (i:=14) (v:=.slice q.racks.a 2 q.racks.c) (by show some (Value.slice q.racks.a x.racks.length q.racks.c)=_;rw [hrl])
     rw [hq] at c14
     have c17:=VI.out.cell (i:=17) (v:=.int .i64 1) (by rw [HGC.out];show some (Value.int .i64 x.player)=_;rw [e])
     have c13:=HB.out.cell (i:=13) (v:=.string x.bag) rfl
     have f13:=HB.out.free 13
     obtain ⟨B2,b2⟩:=HB.out.rackSet HQ.out (by show 0 < x.racks.length;rw [hrl];decide) 1 a
     have d14:=B2.cell (i:=14) (v:=.slice q.racks.a 2 q.racks.c) (by show some (Value.slice q.racks.a (x.racks.set 1 a).length q.racks.c)=_;rw [List.length_set,hrl])
     rw [hq] at d14
     have d13:=B2.cell (i:=13) (v:=.string x.bag) rfl
     have g13:=B2.free 13
     have V2:=VI.out.front b2 (Nat.lt_add_of_pos_right (by decide))
     have d17:=V2.cell (i:=17) (v:=.int .i64 1) (by rw [HGC.out];show some (Value.int .i64 x.player)=_;rw [e])
     obtain ⟨B3,b3⟩:=B2.put (y:={ x.idle 2 k with racks:=x.racks.set 1 a,bag:=b }) 13 (.string b) rfl ⟨⟨rfl,rfl,rfl⟩,rfl,rfl,rfl⟩
     have k14:=B3.cell (i:=14) (v:=.slice q.racks.a 2 q.racks.c) (by show some (Value.slice q.racks.a (x.racks.set 1 a).length q.racks.c)=_;rw [List.length_set,hrl])
     rw [hq] at k14
     have k17:=(V2.front b3 (Nat.lt_add_of_pos_right (by decide))).cell (i:=17) (v:=.int .i64 1) (by rw [HGC.out];show some (Value.int .i64 x.player)=_;rw [e])
     have HB3:=Lh B3
     have VI3:=Lh (V2.front b3 (Nat.lt_add_of_pos_right (by decide)))
     have VO3:=Lh ((VO.out.front b2 (Nat.lt_succ_self _)).front b3 (Nat.lt_succ_self _))
     have hb3:=b2.trans b3
     replace hb:=hb.trans (hb3.mono (Nat.le_add_right _ 2))
     have HAT3:=Lh (Gam.At.kept HA0.out hb)
     clear B2 b2 B3 b3 hb3 hq V2 HB HG VI VO HA0
     refine wp_region_held_drew (S:=fun w'=>w'.cell? ⟨g,14,none⟩=some (.slice (some ⟨gb,0,none⟩) 2 q.racks.c)∧w'.cell? ⟨w.heap.size,17,none⟩=some (.int .i64 1)) (by kernel_rfl) ⟨c14,c17⟩ (fun hHeld=>?_)
     generalize w4.drew=wd at *
     refine slotA 0 45 (.pointer (some ⟨g,0,none⟩)) ?_
     simp only [S3]
     refine slotA 1 46 (.pointer (some ⟨g,0,none⟩)) ?_
     simp only [S3]
     refine slotA 2 47 (.pointer (some ⟨g,14,none⟩)) ?_
     simp only [S3]
     refine slotA 3 48 (.slice (some ⟨gb,0,none⟩) 2 q.racks.c) ?_ (hy:=Or.inl ⟨by rfl,fun w' hS=>by have c9:=hS.1;go_simp⟩)
     simp only [S3]
     refine slotA 4 49 (.pointer (some ⟨w.heap.size,17,none⟩)) ?_
     simp only [S3]
     refine slotA 5 50 (.int .i64 1) ?_ (hy:=Or.inl ⟨by rfl,fun w' hS=>by have c9:=hS.2;go_simp⟩)
     simp only [S3]
     refine slotA 6 51 (.pointer (some ⟨g,0,none⟩)) ?_
     simp only [S3]
     refine slotA 7 52 (.string a) ?_
     simp only [S3]
     refine slotA 8 53 (.string b) ?_
     simp only [S3]
     refine slotA 9 54 (.pointer (some ⟨gb,1,none⟩)) ?_
     simp only [S3]
     refine wpAnyH_ready (rs:=[10]) (by kernel_rfl) (by simp) ?_
     refine AllReadyH.cons (o:=_) rfl (fun K hK=>?_) AllReadyH.nil
     go_simp
     refine hK.out _ _ ⟨d14,d17⟩ (fun _=>?_)
     clear hK K hHeld c14 c17 c13 f13 t0 t1 f0 f1
     generalize wd.setCell ⟨gb,1,none⟩ (.string a)=w5 at *
     refine slotA 11 55 (.pointer (some ⟨g,0,none⟩)) ?_
     simp only [S3]
     refine slotA 12 56 (.pointer (some ⟨g,13,none⟩)) ?_
     simp only [S3]
     refine wpAnyH_ready (rs:=[13]) (by kernel_rfl) (by simp) ?_
     refine AllReadyH.cons (o:=_) rfl (fun K hK=>?_) AllReadyH.nil
     go_simp
     refine hK.out _ _ ⟨k14,k17⟩ (fun _=>?_)
     clear hK K d14 d17 d13 g13 k14 k17
     generalize w5.setCell ⟨g,13,none⟩ (.string b)=w6 at *
     refine wpAnyH_done (by kernel_rfl) ?_ _
     have HB:Hid (GBox w6 (w.heap.size+2) g yi q):=Lh (by have h:=HB3.out;rw [e'0.out] at h;exact h)
     have VI:=VI3
     have VO:=VO3
     clear HB3 VI3 VO3 HQ
     go_upto_region 11 with fail
     have RG:=VI.out.range
     refine wp_region_list ?_
     go_wp2_with (refine wpList_load_mid rfl 48 _ rfl w.heap.size 0 rfl gc _ RG Tryz.underlying48 rfl HSZ.out ?_)
     clear RG
     go_wp2_with fail
     refine (HWT.out _ HAT3.out).mono ?_
     rintro e6 w7 ⟨rfl,hd⟩
     replace hb:=hb.trans (hd.mono hb.size)
     replace VI:=Lh (VI.out.kept hd)
     replace VO:=Lh (VO.out.kept hd)
     replace HB:=Lh (HB.out.kept hd)
     clear hd
     clear HWT HAT3
     rw [hwf]
     clear hwf
     have c18:w7.cell? ⟨g,18,none⟩=some (.int .i64 (x.zeros+1)):=HB.out.cell (HZC.out q)
     by_cases h6:x.zeros+1=6
     ·have HY:=Lh (HX6.out h6)
      rw [h6] at c18
      clear h6 HX6 HX7 HZC
      go_wp2_with fail
      refine (HST.out _ _ true _ HB.out).mono ?_
      rintro e9 w9 ⟨rfl,hg,hd⟩
      have HB5:Hid (GBox w9 (w.heap.size+2) g (yi.settled) q):=Lh hg
      replace VO:=Lh (VO.out.front hd (Nat.lt_succ_self _))
      replace hb:=hb.trans (hd.mono (Nat.le_add_right _ _))
      clear hg hd HST HB VI HSZ
      have RY:=(HB5.out).var.range
      have tR:=gnil_there VO.out
      have hvl:=VO.out.lt
      obtain ⟨o6,k6⟩:=VO.out.put (gcells yi.settled q) rfl
      have HZ:=Lh ((HB5.out).rows.store k6 (by omega))
      have HO:=Lh (HB5.out).off
      have hb6:=hb.grown k6 hb.size (fun k h=>by cases h;omega)
      have rZ:=o6.range
      clear o6 k6 hb VO hvl
      go_upto_region 12 with fail
      refine wp_region_list ?_
      refine wpList_plain rfl (fun K hK=>?_)
      go_simp
      refine hK _ _ ?_
      clear hK K
      refine wpList_plain rfl (fun K hK=>?_)
      go_simp
      refine hK _ _ ?_
      clear hK K
      refine wpList_load_mid rfl 48 _ rfl g 0 rfl (gcells yi.settled q) _ RY Tryz.underlying48 rfl (size_game _ _) ?_
      simp only [Act.put,S3]
      refine wpList_store_mid rfl 48 _ _ rfl (w.heap.size+1) 0 (gcells yi.settled q).toArray rfl rfl tR (size_game _ _) (all_oneCell_toArray (gcells_all1 _ _)) ?_
      change wpList _ _ _ _ _ (w9.setCells (w.heap.size+1) 0 (gcells yi.settled q))
      generalize w9.setCells (w.heap.size+1) 0 (gcells yi.settled q)=wZ at *
      clear RY tR
      have HV:=Lh (run_loadVar_mid (P:=Tryz.prog) wZ (w.heap.size+1) 0 48 (gcells yi.settled q) _ rZ Tryz.underlying48 rfl (size_game _ _))
      clear rZ
      go_wp2
      refine bodyPost_ret (results_cell_tmp_var Tryz.results10 _ _ _ _ rfl HV.out) rfl ?_
      exact turn_some HY.out rfl HZ.out HO.out (Nat.le_add_right _ 2) hb6
     ·have HY:=Lh (HX7.out h6)
      have b6:(x.zeros+1 == 6)=false:=by simpa using h6
      clear h6 HX6 HX7 HZC
      generalize x.zeros+1=z1 at c18 b6
      go_wp2_with fail
      refine (HST.out _ _ false _ HB.out).mono ?_
      rintro e9 w9 ⟨rfl,hg,hd⟩
      have HB5:Hid (GBox w9 (w.heap.size+2) g (yi) q):=Lh hg
      replace VO:=Lh (VO.out.front hd (Nat.lt_succ_self _))
      replace hb:=hb.trans (hd.mono (Nat.le_add_right _ _))
      clear hg hd HST HB VI HSZ
      have RY:=(HB5.out).var.range
      have tR:=gnil_there VO.out
      have hvl:=VO.out.lt
      obtain ⟨o6,k6⟩:=VO.out.put (gcells yi q) rfl
      have HZ:=Lh ((HB5.out).rows.store k6 (by omega))
      have HO:=Lh (HB5.out).off
      have hb6:=hb.grown k6 hb.size (fun k h=>by cases h;omega)
      have rZ:=o6.range
      clear o6 k6 hb VO hvl
      go_upto_region 12 with fail
      refine wp_region_list ?_
      refine wpList_plain rfl (fun K hK=>?_)
      go_simp
      refine hK _ _ ?_
      clear hK K
      refine wpList_plain rfl (fun K hK=>?_)
      go_simp
      refine hK _ _ ?_
      clear hK K
      refine wpList_load_mid rfl 48 _ rfl g 0 rfl (gcells yi q) _ RY Tryz.underlying48 rfl (size_game _ _) ?_
      simp only [Act.put,S3]
      refine wpList_store_mid rfl 48 _ _ rfl (w.heap.size+1) 0 (gcells yi q).toArray rfl rfl tR (size_game _ _) (all_oneCell_toArray (gcells_all1 _ _)) ?_
      change wpList _ _ _ _ _ (w9.setCells (w.heap.size+1) 0 (gcells yi q))
      generalize w9.setCells (w.heap.size+1) 0 (gcells yi q)=wZ at *
      clear RY tR
      have HV:=Lh (run_loadVar_mid (P:=Tryz.prog) wZ (w.heap.size+1) 0 48 (gcells yi q) _ rZ Tryz.underlying48 rfl (size_game _ _))
      clear rZ
      go_wp2
      refine bodyPost_ret (results_cell_tmp_var Tryz.results10 _ _ _ _ rfl HV.out) rfl ?_
      exact turn_some HY.out rfl HZ.out HO.out (Nat.le_add_right _ 2) hb6
    ·have HW:=Lh (HXN.out hc)
     have hne:(c != 0)=true:=by simpa using hc
     refine wp_region_quiet_below (by kernel_rfl) (by kernel_rfl) ?_
     repeat (go_big_quiet_step ((first | (go_at_call 40;exact Calls.regrown_of (HEX.out _)) )))
     refine wpQuiet_nil ?_
     intro wx hw'
     obtain ⟨⟨dq,oq⟩,hw''⟩:=hw'
     have hd:=below_regrown w3 dq oq
     rw [← hw''] at hd
     clear hw'' b13 b14 b17 r0
     replace hb:=hb.trans (hd.mono hb.size)
     replace VO:=Lh (VO.out.kept hd)
     clear hd
     clear HX6 HX7 HXN HEX hc HST HWF HID HWT HG HGC VI hrl HSZ HZC
     go_upto_region 8 with fail
     have tR:=gnil_there VO.out
     obtain ⟨o6,k6⟩:=VO.out.put gnil rfl
     have hb6:=hb.grown k6 hb.size (fun k h=>by cases h;omega)
     have rZ:=o6.range
     clear o6 k6 hb VO
     refine wp_region_list ?_
     refine wpList_built rfl 48 rfl gnil.toArray built_game ?_
     refine wpList_plain rfl (fun K hK=>?_)
     simp only [Act.put,S3]
     go_simp
     refine hK _ _ ?_
     clear hK K
     refine wpList_store_mid rfl 48 _ _ rfl (w.heap.size+1) 0 gnil.toArray rfl rfl tR size_nil (all_oneCell_toArray gnil_one) ?_
     change wpList _ _ _ _ _ (wx.setCells (w.heap.size+1) 0 gnil)
     generalize wx.setCells (w.heap.size+1) 0 gnil=wZ at *
     clear tR
     have HV:=Lh (run_loadVar_mid (P:=Tryz.prog) wZ (w.heap.size+1) 0 48 gnil _ rZ Tryz.underlying48 rfl size_nil)
     clear rZ
     go_wp2
     refine bodyPost_ret (results_cell_tmp_var Tryz.results10 _ _ _ _ rfl HV.out) rfl ?_
     exact turn_none HW.out rfl hb6
  ·have HW:=Lh (Gam.swapB HP.out h0)
   have hne:(x.begin k != 0)=true:=by simpa using h0
   generalize x.begin k=c at *
   clear HID HWT HFT
   go_enter Tryz.func10,Tryz.ntmps10
   go_upto_region 1 with fail
   change Code.wp _ _ _ _ ((w.alloc (.cells gc.toArray 48)).alloc (.cells gnil.toArray 48))
   generalize (w.alloc (.cells gc.toArray 48)).alloc (.cells gnil.toArray 48)=w1 at *
   go_wp2_with fail
   refine (HPL.out _).mono ?_
   rintro e w2 ⟨rfl,hd⟩
   replace hb:=hb.trans (hd.mono hb.size)
   replace HG:=Lh (HG.out.kept hd)
   replace VI:=Lh (VI.out.kept hd)
   replace VO:=Lh (VO.out.kept hd)
   replace HE:=Lh (HE.out.kept hd)
   replace HL:=Lh (HL.out.kept hd)
   clear hd
   clear HPL
   go_upto_region 3 with fail
   have RG:=VI.out.range
   refine wp_region_list ?_
   refine wpList_load_mid rfl 48 _ rfl w.heap.size 0 rfl gc _ RG Tryz.underlying48 rfl HSZ.out ?_
   clear RG
   go_wp2_with fail
   refine (HAC.out _ HG.out.at_ HE.out HL.out).mono ?_
   rintro e w3 ⟨rfl,hd⟩
   replace hb:=hb.trans (hd.mono hb.size)
   replace VO:=Lh (VO.out.kept hd)
   clear hd
   clear HAC HE HL HG HGC VI HSZ h0
   go_upto_region 5 with fail
   have tR:=gnil_there VO.out
   obtain ⟨o6,k6⟩:=VO.out.put gnil rfl
   have hb6:=hb.grown k6 hb.size (fun k h=>by cases h;omega)
   have rZ:=o6.range
   clear o6 k6 hb VO
   refine wp_region_list ?_
   refine wpList_built rfl 48 rfl gnil.toArray built_game ?_
   refine wpList_plain rfl (fun K hK=>?_)
   simp only [Act.put,S3]
   go_simp
   refine hK _ _ ?_
   clear hK K
   refine wpList_store_mid rfl 48 _ _ rfl (w.heap.size+1) 0 gnil.toArray rfl rfl tR size_nil (all_oneCell_toArray gnil_one) ?_
   change wpList _ _ _ _ _ (w3.setCells (w.heap.size+1) 0 gnil)
   generalize w3.setCells (w.heap.size+1) 0 gnil=wZ at *
   clear tR
   have HV:=Lh (run_loadVar_mid (P:=Tryz.prog) wZ (w.heap.size+1) 0 48 gnil _ rZ Tryz.underlying48 rfl size_nil)
   clear rZ
   go_wp2
   refine bodyPost_ret (results_cell_tmp_var Tryz.results10 _ _ _ _ rfl HV.out) rfl ?_
   exact turn_none HW.out rfl hb6
theorem implExchangeTurn_any (x:Gam) (p:GaA) (s:ByteArray) (k:Int) (w:World) (ha:x.At p w) (hf:x.fit) (hsm:x.small) (htz:x.setup.tiles.letters.size≤1048576) (hwz:x.last.play.word.size≤1048576) (hss:s.size≤1048576) (hE:CEnv w) (hL:EnvL w) :
  Calls Tryz.prog 10 #[.agg (gcells x p).toArray,.string s,.int .i64 k] w fun e w'=>∃ q:GaA,e=.returned (.tuple #[.agg (gcells (x.swapOf s k).1 q).toArray,.int .i64 (x.swapOf s k).2])∧(x.swapOf s k).1.Z q w.heap.size w'∧(x.swapOf s k).1.Off q∧Below w.heap.size w w' :=
 implExchange_any x p s k w ha hf hsm htz hwz hss hE hL
end Go.Proofs.YtkjhapbjdjcipaaGreatDoor
