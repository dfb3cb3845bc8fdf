/- Contract: the reference's standard board. For every size. · Contracts: the shuffled bag: the reference and the program. -/
import Derived.Test.YtgphkffbbmmmmaaGreatDoorMkA
import Derived.Test.YtgphkffbbmmmmaaGreatDoorGmM
import Derived.Test.YtgphkffbbmmmmaaGreatDoorGpI
import Derived.Test.YtgphkffbbmmmmaaGreatDoorMdA
import Derived.Test.YtgphkffbbmmmmaaGreatDoorMkQ
import Derived.Test.YtgphkffbbmmmmaaGreatDoorGmI
namespace Go.Proofs.YtgphkffbbmmmmaaGreatDoor
open Go.ChangeShapes Go.WideShapes Go.ChangeAt Go.RowKit Go.Sort

end Go.Proofs.YtgphkffbbmmmmaaGreatDoor
set_option maxRecDepth 100000
set_option maxHeartbeats 4000000
namespace Go.Proofs.YtgphkffbbmmmmaaGreatDoor
open Go.ChangeShapes Go.WideShapes Go.ChangeAt Go.RowKit Go.Sort

theorem Tls.Std.fit {t:Tls} (h:t.Std):t.fit:=by
 obtain ⟨h1,h2,h3⟩:=h.len
 exact ⟨by omega,by omega,by omega⟩
theorem all_size {t:Tls} (h:t.Std):(mkB (allL t)).size≤120∧14≤(mkB (allL t)).size:=by
 have h1:=h.low
 have h2:=h.high
 rw [mkB_size]
 omega
theorem implShuffleBag_any (t:Tls) (q:TlA) (x0:Nat) (w:World) (ha:t.At q w) (ht:t.Std) (hx:x0 < 2147483648) :
  Calls Tryz.prog 31 #[.agg #[.string t.letters,.slice q.values.a t.values.length q.values.c,.slice q.counts.a t.counts.length q.counts.c,.int .i64 t.blanks],.int .i64 x0] w fun e w'=>e=.returned (.tuple #[.string (mkB (shuf x0 (allL t))),.int .i64 0])∧Below w.heap.size w w':=by
 have hb:Below w.heap.size w (w.alloc (.cells #[.string t.letters,.slice q.values.a t.values.length q.values.c,.slice q.counts.a t.counts.length q.counts.c,.int .i64 t.blanks] 24)):=(Below.refl _ _).alloc (Nat.le_refl _) _
 have HT:=Lh (TAt.new w t q 24 ha)
 have HOK:Hid (∀ W,t.At q W→Calls Tryz.prog 68 #[.agg #[.string t.letters,.slice q.values.a t.values.length q.values.c,.slice q.counts.a t.counts.length q.counts.c,.int .i64 t.blanks]] W fun e w'=>e=.returned (.bool true)∧Below W.heap.size W w'):=Lh (fun W h=>by have:=ValidTiles_any t q W h ht.fit (by have:=ht.len.1;omega);rwa [ht.ok] at this)
 have HAL:Hid (∀ W,t.At q W→Calls Tryz.prog 69 #[.agg #[.string t.letters,.slice q.values.a t.values.length q.values.c,.slice q.counts.a t.counts.length q.counts.c,.int .i64 t.blanks]] W fun e w'=>e=.returned (.string (mkB (allL t)))∧Below W.heap.size W w'):=Lh (fun W h=>allTiles_any t q W h ht.ok)
 obtain ⟨s1,s2⟩:=all_size ht
 have hz:withinB (x0:Int) 0 2147483647=true:=by simp only [withinB,Bool.and_eq_true,decide_eq_true_eq];omega
 have HIN:Hid (∀ W,Calls Tryz.prog 30 #[.int .i64 x0,.int .i64 0,.int .i64 2147483647] W fun e w'=>e=.returned (.bool true)∧W=w'):=Lh (fun W=>by have:=within_any (x0:Int) 0 2147483647 W;rwa [hz] at this)
 have HSH:Hid (shufL ((mkB (allL t)).size - 1) x0 (allL t)=shuf x0 (allL t)):=Lh (by unfold shuf;rw [mkB_size])
 have HDT:=Lh (mkB_data (allL t))
 have HL:Hid ((allL t).length=(mkB (allL t)).size):=Lh (mkB_size _).symm
 clear ha ht hz
 generalize mkB (allL t)=s at *
 generalize allL t=L0 at *
 generalize shuf x0 L0=R at *
 have hn1:((s.size - 1:Nat):Int)=(s.size:Int) - 1:=by omega
 generalize s.size - 1=n1 at *
 have hn2:n1 < s.size:=by omega
 have c0:=HT.out.1.1
 have c1:=HT.out.1.2.1
 have c2:=HT.out.1.2.2.1
 have c3:=HT.out.1.2.2.2
 go_enter Tryz.func31,Tryz.ntmps31
 go_upto_region 1 with fail
 generalize w.alloc (.cells #[.string t.letters,.slice q.values.a t.values.length q.values.c,.slice q.counts.a t.counts.length q.counts.c,.int .i64 t.blanks] 24)=w1 at *
 go_wp2_with fail
 refine (HOK.out _ HT.out.2).mono ?_
 rintro e w2 ⟨rfl,hd⟩
 replace HT:=Lh (HT.out.kept hd)
 replace hb:=hb.trans (hd.mono hb.size)
 clear hd HOK c0 c1 c2 c3
 have c0:=HT.out.1.1
 have c1:=HT.out.1.2.1
 have c2:=HT.out.1.2.2.1
 have c3:=HT.out.1.2.2.2
 go_wp2_with fail
 refine (HIN.out _).mono ?_
 rintro e w3 ⟨rfl,rfl⟩
 clear HIN
 go_wp2_with fail
 refine (HAL.out _ HT.out.2).mono ?_
 rintro e w4 ⟨rfl,hd⟩
 replace hb:=hb.trans (hd.mono hb.size)
 clear hd HAL c0 c1 c2 c3 HT
 obtain ⟨cp,w5,hcp,hcv,hr,hd⟩:=bytes_of s w4
 rw [HDT.out] at hr
 have hz4:=hb.size
 replace hb:=hb.trans (hd.mono hb.size)
 have hz5:=hr.lt
 have HR:=Lh hr
 clear hr hd HDT
 go_wp2_with fail
 refine (mixer_any x0 _).mono ?_
 rintro e w6 ⟨rfl,hv,hd⟩
 have HV:=Lh hv
 have hne:w5.heap.size≠w4.heap.size:=by omega
 have hBlo:w.heap.size≤w5.heap.size:=hb.size
 replace HR:=Lh (HR.out.kept hd)
 replace hb:=hb.trans (hd.mono hb.size)
 clear hv hd hcv hz5
 generalize w5.heap.size=B at *
 generalize w4.heap.size=G at *
 go_wp2_with fail
 go_loopw [8] (fun iv wr=>∃ (x i:Nat) (l:List UInt8),iv=.int .i64 i∧x < 2147483648∧i < s.size∧Hid (l.length=s.size)∧Hid (shufL i x l=R)∧Hid (RowB wr G l)∧Hid (VarAt wr B 2 [.int .i64 x])∧Below w.heap.size w wr) (fun iv _=>(intOf iv).toNat)
 case atStart=>exact ⟨x0,n1,L0,by rw [hn1],hx,hn2,HL,HSH,HR,HV,hb⟩
 case round =>
  clear HL HSH HR HV hb hx hn1 hn2
  obtain ⟨x,i,l,rfl,hx,hi,HL,HSH,HR,HV,hb⟩:=hrel
  by_cases h0:0 < i
  ·have h1:(1:Int)≤(i:Int):=by omega
   obtain ⟨y,z,k,hy,hz,hk,e1,e2,e3,HN⟩:=shuf_step i x l h0 hx
   have wr3:IntKind.i64.wrap ((i:Int)+1)=(i:Int)+1:=IntWalk.i64_in _ (by omega)
   go_wp2_with fail
   refine (mixed_any x y z B _ hx e1 e2 hz HV.out).mono ?_
   rintro e wm ⟨rfl,hv,hg⟩
   replace HR:=Lh (HR.out.grown hg (by simp;omega))
   replace hb:=hb.grown hg hb.size (fun q h=>by cases h;exact hBlo)
   replace HV:=Lh hv
   clear hv hg e1 e2 hx
   have hil:i < l.length:=by rw [HL.out];exact hi
   have hkl:k < l.length:=by rw [HL.out];omega
   have HSW:=Lh (swapL_get l hil hkl)
   have HL9:Hid ((swapL l i k).length=s.size):=Lh (by rw [swapL_len];exact HL.out)
   have HS9:Hid (shufL (i - 1) y (swapL l i k)=R):=Lh (by rw [← HN.out];exact HSH.out)
   go_upto_region 10 with fail
   by_cases hik:i=k
   ·subst hik
    have ci:=HR.out.cell hil
    have ck:=HR.out.cell (i:=i) hkl
    have fi:=HR.out.free hil
    have fk:=HR.out.free hkl
    have bi:(i:Int) < (s.size:Int):=by omega
    have bk:(i:Int) < (s.size:Int):=by omega
    obtain ⟨o1,g1⟩:=HR.out.set i l[i]
    have hk2:i < (l.set i l[i]).length:=by rw [List.length_set];exact hkl
    have ck2:=o1.cell hk2
    have fk2:=o1.free hk2
    generalize (l.set i l[i])[i]=d at ck2
    obtain ⟨o2,g2⟩:=o1.set i l[i]
    have GG:=grownBy_trans g1 g2
    have hb9:=hb.grown GG hb.size (fun q h=>by cases h;omega)
    have HO:=Lh (o2.as HSW.out.symm)
    have HV9:=Lh (HV.out.grown GG (by simp;omega))
    generalize l[i]=a at *
    try generalize l[i]=b at *
    generalize swapL l i i=l2 at *
    have hi1:((i - 1:Nat):Int)=(i:Int) - 1:=by omega
    have hi2:i - 1 < i:=by omega
    generalize i - 1=j at *
    clear hk2 o1 o2 g1 g2 GG HSW HN HL HSH HR HV hb hil hkl e3 wr3 hz4 hBlo
    go_region
    generalize hwz:((wm.setCell ⟨G,i,none⟩ (.int .u8 (a.toNat:Int))).setCell ⟨G,i,none⟩ (.int .u8 (a.toNat:Int)))=wz at *
    have hd:Below wz.heap.size wz wz.drew:=(Below.refl _ _).drew
    replace HO:=Lh (HO.out.kept hd)
    replace HV9:=Lh (HV9.out.kept hd)
    replace hb9:=hb9.trans (hd.mono hb9.size)
    clear hd hwz ci fi fk2 ck2
    go_wp2
    go_roundw
    case rel=>exact ⟨y,j,l2,by rw [hi1],hy,by omega,HL9,HS9,HO,HV9,hb9⟩
    case measure=>simp [intOf];omega
   ·have ci:=HR.out.cell hil
    have ck:=HR.out.cell (i:=k) hkl
    have fi:=HR.out.free hil
    have fk:=HR.out.free hkl
    have bi:(i:Int) < (s.size:Int):=by omega
    have bk:(k:Int) < (s.size:Int):=by omega
    obtain ⟨o1,g1⟩:=HR.out.set i l[k]
    have hk2:k < (l.set i l[k]).length:=by rw [List.length_set];exact hkl
    have ck2:=o1.cell hk2
    have fk2:=o1.free hk2
    generalize (l.set i l[k])[k]=d at ck2
    obtain ⟨o2,g2⟩:=o1.set k l[i]
    have GG:=grownBy_trans g1 g2
    have hb9:=hb.grown GG hb.size (fun q h=>by cases h;omega)
    have HO:=Lh (o2.as HSW.out.symm)
    have HV9:=Lh (HV.out.grown GG (by simp;omega))
    generalize l[i]=a at *
    try generalize l[k]=b at *
    generalize swapL l i k=l2 at *
    have hi1:((i - 1:Nat):Int)=(i:Int) - 1:=by omega
    have hi2:i - 1 < i:=by omega
    generalize i - 1=j at *
    clear hk2 o1 o2 g1 g2 GG HSW HN HL HSH HR HV hb hil hkl e3 wr3 hz4 hBlo
    go_region
    generalize hwz:((wm.setCell ⟨G,i,none⟩ (.int .u8 (b.toNat:Int))).setCell ⟨G,k,none⟩ (.int .u8 (a.toNat:Int)))=wz at *
    have hd:Below wz.heap.size wz wz.drew:=(Below.refl _ _).drew
    replace HO:=Lh (HO.out.kept hd)
    replace HV9:=Lh (HV9.out.kept hd)
    replace hb9:=hb9.trans (hd.mono hb9.size)
    clear hd hwz ci fi fk2 ck2
    go_wp2
    go_roundw
    case rel=>exact ⟨y,j,l2,by rw [hi1],hy,by omega,HL9,HS9,HO,HV9,hb9⟩
    case measure=>simp [intOf];omega
  ·obtain rfl:i=0:=by omega
   have hcv:=HR.out.str (n:=s.size) (cap:=cp) HL.out.symm
   have HE:Hid (mkB l=mkB R):=Lh (by have h:=HSH.out;rw [shufL_zero] at h;rw [h])
   rw [HE.out] at hcv
   clear HR HSH
   go_wp2
   go_ret2
   exact ⟨rfl,hb⟩
end Go.Proofs.YtgphkffbbmmmmaaGreatDoor
