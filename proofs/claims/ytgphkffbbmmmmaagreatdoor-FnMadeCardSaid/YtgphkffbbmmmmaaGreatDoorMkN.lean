/- Contracts: the program's empty board and standard board. For every size. · Contract: the program makes a game by name. Leans on Go's tables and on strconv's two erro -/
import Derived.Test.YtgphkffbbmmmmaaGreatDoorMkA
import Derived.Test.YtgphkffbbmmmmaaGreatDoorGmI
import Derived.Test.YtgphkffbbmmmmaaGreatDoorMkM
import Derived.Test.YtgphkffbbmmmmaaGreatDoorMkL
import Derived.Test.YtgphkffbbmmmmaaGreatDoorMkG
import Derived.Test.YtgphkffbbmmmmaaGreatDoorMkI
set_option maxRecDepth 100000
set_option maxHeartbeats 4000000
namespace Go.Proofs.YtgphkffbbmmmmaaGreatDoor
open Go.ChangeShapes Go.WideShapes Go.ChangeAt Go.RowKit Go.Sort

/-- an empty board, and a code -/
def empBoard (z:Int):Brd × Int:=if withinB z 5 15=true then (⟨z,mkB (List.replicate (z.toNat * z.toNat) 46),mkB (List.replicate (z.toNat * z.toNat) 46)⟩,0) else (⟨0,⟨#[]⟩,⟨#[]⟩⟩,2)
theorem emp_no {z:Int} (h:withinB z 5 15=false):empBoard z=(⟨0,⟨#[]⟩,⟨#[]⟩⟩,2):=by unfold empBoard;rw [h];rfl
theorem emp_yes {n:Nat} (h:withinB (n:Int) 5 15=true):empBoard (n:Int)=(⟨n,mkB (List.replicate (n * n) 46),mkB (List.replicate (n * n) 46)⟩,0):=by unfold empBoard;rw [h];rfl
theorem std_no {z:Int} (h:withinB z 5 15=false):stdBoard z=(⟨0,⟨#[]⟩,⟨#[]⟩⟩,2):=by unfold stdBoard;rw [h];rfl
theorem std_yes {n:Nat} (h:withinB (n:Int) 5 15=true):stdBoard (n:Int)=(⟨n,mkB (stdL n),mkB (List.replicate (n * n) 46)⟩,0):=by unfold stdBoard;rw [h];rfl
theorem EmptyBoard_any (z:Int) (w:World) :
  Calls Tryz.prog 66 #[.int .i64 z] w fun e w'=>e=.returned (.tuple #[.agg #[.int .i64 (empBoard z).1.size,.string (empBoard z).1.premium,.string (empBoard z).1.cells],.int .i64 (empBoard z).2])∧Below w.heap.size w w':=by
 have hb0:Below w.heap.size w (w.alloc (.cells #[.int .i64 0,.string ⟨#[]⟩,.string ⟨#[]⟩] 29)):=(Below.refl _ _).alloc (Nat.le_refl _) _
 have V0:=Lh (VarAt.new w 29 [.int .i64 0,.string ⟨#[]⟩,.string ⟨#[]⟩])
 have HSZ:Hid (∀ W,Calls Tryz.prog 107 #[.int .i64 z] W fun e w'=>e=.returned (.bool (withinB z 5 15))∧W=w'):=Lh (fun W=>sizeOk_any z W)
 cases hz:withinB z 5 15 with
 | false =>
  rw [emp_no hz]
  rw [hz] at HSZ
  clear hz
  go_enter Tryz.func66,Tryz.ntmps66
  go_upto_region 1 with fail
  generalize w.alloc (.cells #[.int .i64 0,.string ⟨#[]⟩,.string ⟨#[]⟩] 29)=w1 at *
  go_wp2_with fail
  refine (HSZ.out _).mono ?_
  rintro e w2 ⟨rfl,rfl⟩
  clear HSZ
  have c0:=V0.out.cell (i:=0) rfl
  have c1:=V0.out.cell (i:=1) rfl
  have c2:=V0.out.cell (i:=2) rfl
  have f0:=V0.out.free 0
  have f1:=V0.out.free 1
  have f2:=V0.out.free 2
  obtain ⟨o0,k0⟩:=V0.out.set 0 (.int .i64 0)
  obtain ⟨o1,k1⟩:=o0.set 1 (.string ⟨#[]⟩)
  obtain ⟨o2,k2⟩:=o1.set 2 (.string ⟨#[]⟩)
  have GG:=grownBy_trans (grownBy_trans k0 k1) k2
  have hb9:=hb0.grown GG hb0.size (fun q h=>by cases h;exact Nat.le_refl _)
  have e0:=o2.cell (i:=0) (v:=.int .i64 0) rfl
  have e1:=o2.cell (i:=1) (v:=.string ⟨#[]⟩) rfl
  have e2:=o2.cell (i:=2) (v:=.string ⟨#[]⟩) rfl
  clear o0 o1 o2 k0 k1 k2 GG
  go_wp2
  refine bodyPost_ret (v:=.tuple #[.agg #[.int .i64 0,.string ⟨#[]⟩,.string ⟨#[]⟩],.int .i64 2]) (by simp [results,Tryz.results66,go_sem,e0,e1,e2]) rfl ?_
  exact ⟨rfl,hb9⟩
 | true =>
  have h5:5≤z∧z≤15:=by simpa only [withinB,Bool.and_eq_true,decide_eq_true_eq] using hz
  obtain ⟨n,rfl⟩:∃ n:Nat,z=(n:Int):=⟨z.toNat,by omega⟩
  have hn:n≤15:=by omega
  rw [emp_yes hz]
  rw [hz] at HSZ
  clear hz
  obtain ⟨q,hq⟩:∃ q:Nat,q=n * n:=⟨_,rfl⟩
  have hqi:(n:Int) * (n:Int)=(q:Int):=by rw [hq];push_cast;rfl
  have hq2:q≤225:=by rw [hq];exact Nat.mul_le_mul hn hn
  rw [← hq]
  have HRP:Hid (∀ W,Calls Tryz.prog 108 #[.string ⟨#[46]⟩,.int .i64 (q:Int)] W fun e w'=>e=.returned (.string (mkB (List.replicate q 46)))∧Below W.heap.size W w'):=Lh (fun W=>repeatOne_any ⟨#[46]⟩ 46 q W rfl (by omega))
  have hw:IntKind.i64.wrap (q:Int)=q:=IntWalk.i64_in _ (by omega)
  clear hq
  generalize mkB (List.replicate q 46)=free at *
  go_enter Tryz.func66,Tryz.ntmps66
  go_upto_region 1 with fail
  generalize w.alloc (.cells #[.int .i64 0,.string ⟨#[]⟩,.string ⟨#[]⟩] 29)=w1 at *
  go_wp2_with fail
  refine (HSZ.out _).mono ?_
  rintro e w2 ⟨rfl,rfl⟩
  clear HSZ
  go_wp2_with fail
  refine (HRP.out _).mono ?_
  rintro e w3 ⟨rfl,hd⟩
  replace V0:=Lh (V0.out.kept hd)
  replace hb0:=hb0.trans (hd.mono hb0.size)
  clear hd HRP
  have c0:=V0.out.cell (i:=0) rfl
  have c1:=V0.out.cell (i:=1) rfl
  have c2:=V0.out.cell (i:=2) rfl
  have f0:=V0.out.free 0
  have f1:=V0.out.free 1
  have f2:=V0.out.free 2
  obtain ⟨o0,k0⟩:=V0.out.set 0 (.int .i64 (n:Int))
  obtain ⟨o1,k1⟩:=o0.set 1 (.string free)
  obtain ⟨o2,k2⟩:=o1.set 2 (.string free)
  have GG:=grownBy_trans (grownBy_trans k0 k1) k2
  have hb9:=hb0.grown GG hb0.size (fun q h=>by cases h;exact Nat.le_refl _)
  have e0:=o2.cell (i:=0) (v:=.int .i64 (n:Int)) rfl
  have e1:=o2.cell (i:=1) (v:=.string free) rfl
  have e2:=o2.cell (i:=2) (v:=.string free) rfl
  clear o0 o1 o2 k0 k1 k2 GG
  go_wp2
  refine bodyPost_ret (v:=.tuple #[.agg #[.int .i64 n,.string free,.string free],.int .i64 0]) (by simp [results,Tryz.results66,go_sem,e0,e1,e2]) rfl ?_
  exact ⟨rfl,hb9⟩
theorem StandardBoard_any (z:Int) (w:World) :
  Calls Tryz.prog 29 #[.int .i64 z] w fun e w'=>e=.returned (.tuple #[.agg #[.int .i64 (stdBoard z).1.size,.string (stdBoard z).1.premium,.string (stdBoard z).1.cells],.int .i64 (stdBoard z).2])∧Below w.heap.size w w':=by
 obtain ⟨i0,hi0,hi1,hi2,hi3⟩:=info_parts infoByte
 have hb0:Below w.heap.size w (w.alloc (.cells #[.int .i64 0,.string ⟨#[]⟩,.string ⟨#[]⟩] 29)):=(Below.refl _ _).alloc (Nat.le_refl _) _
 have V0:=Lh (VarAt.new w 29 [.int .i64 0,.string ⟨#[]⟩,.string ⟨#[]⟩])
 have HSZ:=Lh (fun W=>EmptyBoard_any z W)
 cases hz:withinB z 5 15 with
 | false =>
  rw [std_no hz]
  rw [emp_no hz] at HSZ
  clear hz
  go_enter Tryz.func29,Tryz.ntmps29
  go_upto_region 1 with fail
  generalize w.alloc (.cells #[.int .i64 0,.string ⟨#[]⟩,.string ⟨#[]⟩] 29)=w1 at *
  go_wp2_with fail
  refine (HSZ.out _).mono ?_
  rintro e w2 ⟨rfl,hd⟩
  replace V0:=Lh (V0.out.kept hd)
  replace hb0:=hb0.trans (hd.mono hb0.size)
  clear hd HSZ
  have hd:Below w2.heap.size w2 (w2.alloc (.cells #[.int .i64 0,.string ⟨#[]⟩,.string ⟨#[]⟩] 29)):=(Below.refl _ _).alloc (Nat.le_refl _) _
  replace V0:=Lh (V0.out.kept hd)
  replace hb0:=hb0.trans (hd.mono hb0.size)
  clear hd
  go_upto_region 2 with fail
  generalize w2.alloc (.cells #[.int .i64 0,.string ⟨#[]⟩,.string ⟨#[]⟩] 29)=w3 at *
  have c0:=V0.out.cell (i:=0) rfl
  have c1:=V0.out.cell (i:=1) rfl
  have c2:=V0.out.cell (i:=2) rfl
  have f0:=V0.out.free 0
  have f1:=V0.out.free 1
  have f2:=V0.out.free 2
  obtain ⟨o0,k0⟩:=V0.out.set 0 (.int .i64 0)
  obtain ⟨o1,k1⟩:=o0.set 1 (.string ⟨#[]⟩)
  obtain ⟨o2,k2⟩:=o1.set 2 (.string ⟨#[]⟩)
  have GG:=grownBy_trans (grownBy_trans k0 k1) k2
  have hb9:=hb0.grown GG hb0.size (fun q h=>by cases h;exact Nat.le_refl _)
  have e0:=o2.cell (i:=0) (v:=.int .i64 0) rfl
  have e1:=o2.cell (i:=1) (v:=.string ⟨#[]⟩) rfl
  have e2:=o2.cell (i:=2) (v:=.string ⟨#[]⟩) rfl
  clear o0 o1 o2 k0 k1 k2 GG
  go_wp2
  refine bodyPost_ret (v:=.tuple #[.agg #[.int .i64 0,.string ⟨#[]⟩,.string ⟨#[]⟩],.int .i64 2]) (by simp [results,Tryz.results29,go_sem,e0,e1,e2]) rfl ?_
  exact ⟨rfl,hb9⟩
 | true =>
  have h5:5≤z∧z≤15:=by simpa only [withinB,Bool.and_eq_true,decide_eq_true_eq] using hz
  obtain ⟨n,rfl⟩:∃ n:Nat,z=(n:Int):=⟨z.toNat,by omega⟩
  have hn5:5≤n:=by omega
  have hn:n≤15:=by omega
  rw [std_yes hz]
  rw [emp_yes hz] at HSZ
  clear hz
  have HLN:=Lh (stdL_len n)
  have HTK:=Lh (fun (r c m:Nat) (h1:r < n) (h2:c < n) (h3:m=r * n+c)=>stdL_take (n:=n) h1 h2 h3)
  have HST:Hid (∀ r c:Nat,r < n→c < n→∀ W,Calls Tryz.prog 67 #[.int .i64 n,.int .i64 r,.int .i64 c] W fun e w'=>e=.returned (.int .u8 ((stdB n r c).toNat:Int))∧W=w'):=Lh (fun r c h1 h2 W=>standardPremium_any n r c W (by omega) (by omega) (by omega))
  generalize mkB (List.replicate (n * n) 46)=free at *
  go_enter Tryz.func29,Tryz.ntmps29
  go_upto_region 1 with fail
  generalize w.alloc (.cells #[.int .i64 0,.string ⟨#[]⟩,.string ⟨#[]⟩] 29)=w1 at *
  go_wp2_with fail
  refine (HSZ.out _).mono ?_
  rintro e w2 ⟨rfl,hd⟩
  replace V0:=Lh (V0.out.kept hd)
  replace hb0:=hb0.trans (hd.mono hb0.size)
  clear hd HSZ
  have hd:Below w2.heap.size w2 (w2.alloc (.cells #[.int .i64 n,.string free,.string free] 29)):=(Below.refl _ _).alloc (Nat.le_refl _) _
  have V1:=Lh (VarAt.new w2 29 [.int .i64 n,.string free,.string free])
  have hlo2:=V0.out.lt
  replace V0:=Lh (V0.out.kept hd)
  replace hb0:=hb0.trans (hd.mono hb0.size)
  have hlt0:=V0.out.lt
  clear hd
  go_upto_region 4 with fail
  generalize w2.alloc (.cells #[.int .i64 n,.string free,.string free] 29)=w3 at *
  have hlt1:=V1.out.lt
  generalize w2.heap.size=B at *
  have hb:Below w3.heap.size w3 (w3.alloc (.cells #[] 5)):=(Below.refl _ _).alloc (Nat.le_refl _) _
  have HO:Hid ((w3.alloc (.cells #[] 5)).ownsRow w3.heap.size 5 1 (.slice (some ⟨w3.heap.size,0,none⟩) 0 0) 0 []):=Lh (World.ownsRow_made (base:=w3.heap.size) (e:=5) (size:=1) w3 #[] 0 (by simp) (by unfold maxLen;omega) rfl)
  go_upto_region 5 with fail
  generalize w3.alloc (.cells #[] 5)=w4 at *
  go_wp2_with fail
  go_loopw [6,7] (fun ov iv wr=>∃ (r m g cap:Nat),r≤n∧iv=.int .i64 r∧ov=.slice (some ⟨g,0,none⟩) m cap∧Hid (m=r * n)∧m≤225∧Hid (wr.ownsRow w3.heap.size 5 1 (.slice (some ⟨g,0,none⟩) m cap) m (((stdL n).take m).flatMap U8.enc))∧Below w3.heap.size w3 wr) (fun _ iv _=>n - (intOf iv).toNat)
  case atStart=>exact ⟨0,0,_,0,Nat.zero_le _,rfl,rfl,Lh (by simp),by omega,HO,hb⟩
  case round =>
   clear HO hb
   obtain ⟨r,m,g,cap,hr,rfl,rfl,HN,hm,HO,hb⟩:=hrel
   by_cases hlt:r < n
   ·go_wp2_with fail
    obtain ⟨wo,rfl⟩:∃ wo:World,wo=wr:=⟨_,rfl⟩
    go_loopw [6,8] (fun ov iv wr=>∃ (c m g cap:Nat),c≤n∧iv=.int .i64 c∧ov=.slice (some ⟨g,0,none⟩) m cap∧Hid (m=r * n+c)∧m≤225∧Hid (wr.ownsRow w3.heap.size 5 1 (.slice (some ⟨g,0,none⟩) m cap) m (((stdL n).take m).flatMap U8.enc))∧Below w3.heap.size w3 wr) (fun _ iv _=>n - (intOf iv).toNat)
    case atStart=>exact ⟨0,m,g,cap,Nat.zero_le _,rfl,rfl,Lh (by rw [HN.out];rfl),hm,HO,hb⟩
    case round =>
     clear HO hb hm HN
     obtain ⟨c,m,g2,cap2,hc,rfl,rfl,HM,hm,HO,hb⟩:=hrel
     by_cases hc2:c < n
     ·have HT:=Lh (HTK.out r c m hlt hc2 HM.out)
      have hm2:m < 225:=by
       have h1:=HM.out
       have h2:=row_ltn hlt hc2
       have h3:=sq_mono hn
       omega
      have HM2:Hid (m+1=r * n+(c+1)):=Lh (by have:=HM.out;omega)
      have HS1:=Lh (HST.out r c hlt hc2)
      clear HM
      generalize stdB (n:Int) (r:Int) (c:Int)=ch at *
      go_wp2_with fail
      refine (HS1.out _).mono ?_
      rintro e w5 ⟨rfl,rfl⟩
      clear HS1
      have hx:Below wr.heap.size wr (wr.alloc (.cells #[.int .u8 (ch.toNat:Int)] 5)):=(Below.refl _ _).alloc (Nat.le_refl _) _
      have KN:=Lh (new_byte wr ch 5)
      replace HO:=Lh (own_below HO.out hx)
      have hz2:=hb.size
      replace hb:=hb.trans (hx.mono hb.size)
      clear hx
      go_wp2_with (at_builtin;go_must (refine wpList_append_own _ rfl (.tmp 29) (.tmp 34) 49 rfl w3.heap.size 5 i0 _ 1 1 Tryz.underlying49 hi0 hi1 hi2 hi3 rfl (by decide) _ m (((stdL n).take m).flatMap U8.enc) (by rfl) HO.out ⟨wr.heap.size,0,none⟩ 1 1 (U8.enc ch) (by rfl) rfl KN.out (u8_one1 ch) ?c1 ?c2 ?c3 ?_))
      case c1=>unfold maxLen;omega
      case c2=>omega
      case c3=>(first | omega | (simp only [World.size_alloc];omega))
      intro v' w7 hown hgr hnil
      obtain ⟨g7,cap7,rfl,_⟩:=own_some hown (fun e=>by have h:=hnil;rw [e] at h;simp at h)
      have hb7:=hb.grown hgr hb.size (fun q e=>by have:=(HO.out.lt q e).1;omega)
      have HO7:Hid (w7.ownsRow w3.heap.size 5 1 (.slice (some ⟨g7,0,none⟩) (m+1) cap7) (m+1) (((stdL n).take (m+1)).flatMap U8.enc)):=Lh (by
       rw [HT.out,snoc_flat U8.enc];exact hown)
      clear hown hgr hnil KN HO hb HT
      go_wp2
      go_roundw
      case rel=>exact ⟨c+1,m+1,g7,cap7,by omega,by go_num,by go_num,HM2,by omega,HO7,hb7⟩
      case measure=>simp [intOf];omega
     ·obtain rfl:c=n:=by omega
      have HM2:Hid (m=(r+1) * c):=Lh (by rw [Nat.succ_mul];exact HM.out)
      clear HM
      go_wp2
      go_roundw
      case rel=>exact ⟨r+1,m,g2,cap2,by omega,by go_num,rfl,HM2,hm,HO,hb⟩
      case measure=>simp [intOf];omega
   ·obtain rfl:r=n:=by omega
    have HE:Hid ((stdL r).take m=stdL r):=Lh (List.take_of_length_le (by rw [HLN.out,HN.out];exact Nat.le_refl _))
    have hO:=HO.out
    rw [HE.out] at hO
    have HNL:Hid (m=(stdL r).length):=Lh (by rw [HN.out,HLN.out])
    have hcv:=own_bytes hO HNL.out
    generalize hpr:mkB (stdL r)=prem at *
    have HP:=Lh hpr
    clear hpr
    replace V0:=Lh (V0.out.kept hb)
    replace V1:=Lh (V1.out.kept hb)
    replace hb0:=hb0.trans (hb.mono hb0.size)
    clear hO HO HE HTK HLN HST HNL HN hb
    have q0:=V1.out.cell (i:=0) rfl
    have q1:=V1.out.cell (i:=1) rfl
    have q2:=V1.out.cell (i:=2) rfl
    have p1:=V1.out.free 1
    obtain ⟨o1,g1⟩:=V1.out.set 1 (.string prem)
    replace V0:=Lh (V0.out.grown g1 (by simp;omega))
    replace hb0:=hb0.grown g1 hb0.size (fun q h=>by cases h;omega)
    replace V1:=Lh (o1.as (show _=[.int .i64 r,.string prem,.string free] from rfl))
    clear o1 g1
    go_upto_region 13 with fail
    clear hcv q0 q1 q2 p1
    generalize wr.setCell ⟨B,1,none⟩ (.string prem)=w8 at *
    have q0:=V1.out.cell (i:=0) rfl
    have q1:=V1.out.cell (i:=1) rfl
    have q2:=V1.out.cell (i:=2) rfl
    clear V1
    have c0:=V0.out.cell (i:=0) rfl
    have c1:=V0.out.cell (i:=1) rfl
    have c2:=V0.out.cell (i:=2) rfl
    have f0:=V0.out.free 0
    have f1:=V0.out.free 1
    have f2:=V0.out.free 2
    obtain ⟨o0,k0⟩:=V0.out.set 0 (.int .i64 (r:Int))
    obtain ⟨o1,k1⟩:=o0.set 1 (.string prem)
    obtain ⟨o2,k2⟩:=o1.set 2 (.string free)
    have GG:=grownBy_trans (grownBy_trans k0 k1) k2
    have hb9:=hb0.grown GG hb0.size (fun q h=>by cases h;exact Nat.le_refl _)
    have e0:=o2.cell (i:=0) (v:=.int .i64 (r:Int)) rfl
    have e1:=o2.cell (i:=1) (v:=.string prem) rfl
    have e2:=o2.cell (i:=2) (v:=.string free) rfl
    clear o0 o1 o2 k0 k1 k2 GG
    go_wp2
    refine bodyPost_ret (v:=.tuple #[.agg #[.int .i64 r,.string prem,.string free],.int .i64 0]) (by simp [results,Tryz.results29,go_sem,e0,e1,e2]) rfl ?_
    exact ⟨by rw [HP.out],hb9⟩
end Go.Proofs.YtgphkffbbmmmmaaGreatDoor
set_option maxRecDepth 100000
set_option maxHeartbeats 16000000
namespace Go.Proofs.YtgphkffbbmmmmaaGreatDoor
open Go.ChangeShapes Go.WideShapes Go.ChangeAt Go.RowKit Go.Sort

theorem Env.L {w:World} (h:Env w):EnvL w:=h.2.1
theorem implMakeGame_any (name:ByteArray) (z sd rl:Int) (w:World) (hl:name.size≤1048576) (he:Env w) :
  Calls Tryz.prog 7 #[.string name,.int .i64 z,.int .i64 sd,.int .i64 rl] w (MadePost (makeG name z sd rl) w):=by
 have hb:Below w.heap.size w (w.alloc (.cells gnone.toArray 37)):=(Below.refl _ _).alloc (Nat.le_refl _) _
 have VO:=Lh (VarAt.new w 37 gnone)
 have HENV:=Lh he
 clear he
 cases htn:tileName name with
 | none =>
  rw [make_none htn]
  have HT:Hid (∀ W,Calls Tryz.prog 28 #[.string name] W fun e w'=>e=.returned (.tuple #[.agg #[.string ⟨#[]⟩,.slice none 0 0,.slice none 0 0,.int .i64 0],.int .i64 3])∧Below W.heap.size W w'):=Lh (fun W=>implTiles_none name W htn hl)
  clear htn HENV
  go_enter Tryz.func7,Tryz.ntmps7
  go_upto_region 1 with fail
  change Code.wp _ _ _ _ (w.alloc (.cells gnone.toArray 37))
  generalize w.alloc (.cells gnone.toArray 37)=w1 at *
  go_wp2_with fail
  refine (HT.out _).mono ?_
  rintro e w2 ⟨rfl,hd⟩
  replace VO:=Lh (VO.out.kept hd)
  replace hb:=hb.trans (hd.mono hb.size)
  clear hd HT
  have hd:Below w2.heap.size w2 (w2.alloc (.cells #[.string ⟨#[]⟩,.slice none 0 0,.slice none 0 0,.int .i64 0] 24)):=(Below.refl _ _).alloc (Nat.le_refl _) _
  replace VO:=Lh (VO.out.kept hd)
  replace hb:=hb.trans (hd.mono hb.size)
  clear hd
  go_upto_region 3 with fail
  generalize w2.alloc (.cells #[.string ⟨#[]⟩,.slice none 0 0,.slice none 0 0,.int .i64 0] 24)=w3 at *
  have tR:=VO.out.there (n:=30) rfl
  obtain ⟨o6,k6⟩:=VO.out.put gnone rfl
  have hb6:=hb.grown k6 hb.size (fun k h=>by cases h;exact Nat.le_refl _)
  have rZ:=o6.range
  clear o6 k6 hb VO
  refine wp_region_list ?_
  refine wpList_plain rfl (fun K hK=>?_)
  try simp only [Act.put,S3]
  go_simp
  refine hK _ _ ?_
  clear hK K
  refine wpList_plain rfl (fun K hK=>?_)
  try simp only [Act.put,S3]
  go_simp
  refine hK _ _ ?_
  clear hK K
  refine wpList_store_mid rfl 37 _ _ rfl w.heap.size 0 gnone.toArray rfl rfl tR size_none (all_oneCell_toArray gnone_all) ?_
  change wpList _ _ _ _ _ (w3.setCells w.heap.size 0 gnone)
  generalize w3.setCells w.heap.size 0 gnone=wZ at *
  clear tR
  have HV:=Lh (run_loadVar_mid (P:=Tryz.prog) wZ w.heap.size 0 37 gnone _ rZ Tryz.underlying37 rfl size_none)
  clear rZ
  go_wp2
  refine bodyPost_ret (results_cell_tmp_var Tryz.results7 _ _ _ _ rfl HV.out) rfl ?_
  exact ⟨qn,rfl,none_zz _ _,none_oo,hb6⟩
 | some t =>
  have hst:=tileName_std htn
  obtain ⟨X,hXT,_,_,hX⟩:=key_yes htn
  have HT:Hid (∀ W,Env W→Calls Tryz.prog 28 #[.string name] W (TlPost t (.int .i64 0) W)):=Lh (fun W h=>implTiles_any t name W htn hl h)
  have HBD:=Lh (fun W=>StandardBoard_any z W)
  have HWD:Hid (∀ W,Env W→Calls Tryz.prog 33 #[] W (TextsPost W stdWords)):=Lh (fun W h=>StandardWords_any W h.M)
  have HRL:Hid (∀ W,Calls Tryz.prog 30 #[.int .i64 rl,.int .i64 0,.int .i64 3] W fun e w'=>e=.returned (.bool (withinB rl 0 3))∧W=w'):=Lh (fun W=>within_any _ _ _ W)
  have HSD:Hid (∀ W,Calls Tryz.prog 30 #[.int .i64 sd,.int .i64 0,.int .i64 2147483647] W fun e w'=>e=.returned (.bool (withinB sd 0 2147483647))∧W=w'):=Lh (fun W=>within_any _ _ _ W)
  cases hz:withinB z 5 15 with
  | false =>
   rw [make_bad htn (by rw [hz];rfl)]
   rw [std_nz hz] at HBD
   obtain ⟨bb,hbb⟩:∃ b:Brd,b=⟨0,⟨#[]⟩,⟨#[]⟩⟩:=⟨_,rfl⟩
   rw [← hbb] at HBD
   clear hz htn hst hXT hX hbb HWD HRL HSD
   go_enter Tryz.func7,Tryz.ntmps7
   go_upto_region 1 with fail
   change Code.wp _ _ _ _ (w.alloc (.cells gnone.toArray 37))
   generalize w.alloc (.cells gnone.toArray 37)=w1 at *
   go_wp2_with fail
   refine (HT.out _ (HENV.out.kept hb)).mono ?_
   rintro e w2 ⟨q,rfl,hat,hd⟩
   replace hat:=Tls.Own.at hat
   replace VO:=Lh (VO.out.kept hd)
   replace hb:=hb.trans (hd.mono hb.size)
   clear hd HT
   have hB1:=VO.out.lt
   have V1:=Lh (VarAt.new w2 24 (tlCells t q))
   have hd:Below w2.heap.size w2 (w2.alloc (.cells (tlCells t q).toArray 24)):=(Below.refl _ _).alloc (Nat.le_refl _) _
   replace VO:=Lh (VO.out.kept hd)
   replace hb:=hb.trans (hd.mono hb.size)
   replace hat:=Tls.At.kept hat hd
   clear hd
   go_upto_region 4 with fail
   change Code.wp _ _ _ _ (w2.alloc (.cells (tlCells t q).toArray 24))
   generalize w2.alloc (.cells (tlCells t q).toArray 24)=w3 at *
   generalize w2.heap.size=B1 at *
   go_wp2_with fail
   refine (HBD.out _).mono ?_
   rintro e w4 ⟨rfl,hd⟩
   replace VO:=Lh (VO.out.kept hd)
   replace hb:=hb.trans (hd.mono hb.size)
   replace hat:=Tls.At.kept hat hd
   replace V1:=Lh (V1.out.kept hd)
   clear hd HBD
   have hB2:=VO.out.lt
   have V2:=Lh (VarAt.new w4 29 (Brd.enc bb))
   have hd:Below w4.heap.size w4 (w4.alloc (.cells (Brd.enc bb).toArray 29)):=(Below.refl _ _).alloc (Nat.le_refl _) _
   replace VO:=Lh (VO.out.kept hd)
   replace hb:=hb.trans (hd.mono hb.size)
   replace hat:=Tls.At.kept hat hd
   replace V1:=Lh (V1.out.kept hd)
   clear hd
   go_upto_region 5 with fail
   change Code.wp _ _ _ _ (w4.alloc (.cells (Brd.enc bb).toArray 29))
   generalize w4.alloc (.cells (Brd.enc bb).toArray 29)=w5 at *
   generalize w4.heap.size=B2 at *
   go_upto_region 6 with fail
   clear V1 V2 hat
   have tR:=VO.out.there (n:=30) rfl
   obtain ⟨o6,k6⟩:=VO.out.put gnone rfl
   have hb6:=hb.grown k6 hb.size (fun k h=>by cases h;exact Nat.le_refl _)
   have rZ:=o6.range
   clear o6 k6 hb VO
   refine wp_region_list ?_
   refine wpList_plain rfl (fun K hK=>?_)
   try simp only [Act.put,S3]
   go_simp
   refine hK _ _ ?_
   clear hK K
   refine wpList_store_mid rfl 37 _ _ rfl w.heap.size 0 gnone.toArray rfl rfl tR size_none (all_oneCell_toArray gnone_all) ?_
   change wpList _ _ _ _ _ (w5.setCells w.heap.size 0 gnone)
   generalize w5.setCells w.heap.size 0 gnone=wZ at *
   clear tR
   have HV:=Lh (run_loadVar_mid (P:=Tryz.prog) wZ w.heap.size 0 37 gnone _ rZ Tryz.underlying37 rfl size_none)
   clear rZ
   go_wp2
   refine bodyPost_ret (results_cell_tmp_var Tryz.results7 _ _ _ _ rfl HV.out) rfl ?_
   exact ⟨qn,rfl,none_zz _ _,none_oo,hb6⟩
  | true =>
   rw [std_yz hz] at HBD
   have hbo:=board_std hz
   obtain ⟨bb,hbb⟩:∃ b:Brd,b=(stdBoard z).1:=⟨_,rfl⟩
   rw [← hbb] at HBD
   cases hr:withinB rl 0 3 with
   | false =>
    rw [make_bad htn (by rw [hz,hr];rfl)]
    rw [hr] at HRL
    clear hz hr htn hst hXT hX hbb hbo HWD HSD
    go_enter Tryz.func7,Tryz.ntmps7
    go_upto_region 1 with fail
    change Code.wp _ _ _ _ (w.alloc (.cells gnone.toArray 37))
    generalize w.alloc (.cells gnone.toArray 37)=w1 at *
    go_wp2_with fail
    refine (HT.out _ (HENV.out.kept hb)).mono ?_
    rintro e w2 ⟨q,rfl,hat,hd⟩
    replace hat:=Tls.Own.at hat
    replace VO:=Lh (VO.out.kept hd)
    replace hb:=hb.trans (hd.mono hb.size)
    clear hd HT
    have hB1:=VO.out.lt
    have V1:=Lh (VarAt.new w2 24 (tlCells t q))
    have hd:Below w2.heap.size w2 (w2.alloc (.cells (tlCells t q).toArray 24)):=(Below.refl _ _).alloc (Nat.le_refl _) _
    replace VO:=Lh (VO.out.kept hd)
    replace hb:=hb.trans (hd.mono hb.size)
    replace hat:=Tls.At.kept hat hd
    clear hd
    go_upto_region 4 with fail
    change Code.wp _ _ _ _ (w2.alloc (.cells (tlCells t q).toArray 24))
    generalize w2.alloc (.cells (tlCells t q).toArray 24)=w3 at *
    generalize w2.heap.size=B1 at *
    go_wp2_with fail
    refine (HBD.out _).mono ?_
    rintro e w4 ⟨rfl,hd⟩
    replace VO:=Lh (VO.out.kept hd)
    replace hb:=hb.trans (hd.mono hb.size)
    replace hat:=Tls.At.kept hat hd
    replace V1:=Lh (V1.out.kept hd)
    clear hd HBD
    have hB2:=VO.out.lt
    have V2:=Lh (VarAt.new w4 29 (Brd.enc bb))
    have hd:Below w4.heap.size w4 (w4.alloc (.cells (Brd.enc bb).toArray 29)):=(Below.refl _ _).alloc (Nat.le_refl _) _
    replace VO:=Lh (VO.out.kept hd)
    replace hb:=hb.trans (hd.mono hb.size)
    replace hat:=Tls.At.kept hat hd
    replace V1:=Lh (V1.out.kept hd)
    clear hd
    go_upto_region 5 with fail
    change Code.wp _ _ _ _ (w4.alloc (.cells (Brd.enc bb).toArray 29))
    generalize w4.alloc (.cells (Brd.enc bb).toArray 29)=w5 at *
    generalize w4.heap.size=B2 at *
    go_wp2_with fail
    refine (HRL.out _).mono ?_
    rintro e w6 ⟨rfl,rfl⟩
    clear HRL
    go_upto_region 6 with fail
    clear V1 V2 hat
    have tR:=VO.out.there (n:=30) rfl
    obtain ⟨o6,k6⟩:=VO.out.put gnone rfl
    have hb6:=hb.grown k6 hb.size (fun k h=>by cases h;exact Nat.le_refl _)
    have rZ:=o6.range
    clear o6 k6 hb VO
    refine wp_region_list ?_
    refine wpList_plain rfl (fun K hK=>?_)
    try simp only [Act.put,S3]
    go_simp
    refine hK _ _ ?_
    clear hK K
    refine wpList_store_mid rfl 37 _ _ rfl w.heap.size 0 gnone.toArray rfl rfl tR size_none (all_oneCell_toArray gnone_all) ?_
    change wpList _ _ _ _ _ (w5.setCells w.heap.size 0 gnone)
    generalize w5.setCells w.heap.size 0 gnone=wZ at *
    clear tR
    have HV:=Lh (run_loadVar_mid (P:=Tryz.prog) wZ w.heap.size 0 37 gnone _ rZ Tryz.underlying37 rfl size_none)
    clear rZ
    go_wp2
    refine bodyPost_ret (results_cell_tmp_var Tryz.results7 _ _ _ _ rfl HV.out) rfl ?_
    exact ⟨qn,rfl,none_zz _ _,none_oo,hb6⟩
   | true =>
    rw [hr] at HRL
    cases hs:withinB sd 0 2147483647 with
    | false =>
     rw [make_bad htn (by rw [hz,hr,hs];rfl)]
     rw [hs] at HSD
     clear hz hr hs htn hst hXT hX hbb hbo HWD
     go_enter Tryz.func7,Tryz.ntmps7
     go_upto_region 1 with fail
     change Code.wp _ _ _ _ (w.alloc (.cells gnone.toArray 37))
     generalize w.alloc (.cells gnone.toArray 37)=w1 at *
     go_wp2_with fail
     refine (HT.out _ (HENV.out.kept hb)).mono ?_
     rintro e w2 ⟨q,rfl,hat,hd⟩
     replace hat:=Tls.Own.at hat
     replace VO:=Lh (VO.out.kept hd)
     replace hb:=hb.trans (hd.mono hb.size)
     clear hd HT
     have hB1:=VO.out.lt
     have V1:=Lh (VarAt.new w2 24 (tlCells t q))
     have hd:Below w2.heap.size w2 (w2.alloc (.cells (tlCells t q).toArray 24)):=(Below.refl _ _).alloc (Nat.le_refl _) _
     replace VO:=Lh (VO.out.kept hd)
     replace hb:=hb.trans (hd.mono hb.size)
     replace hat:=Tls.At.kept hat hd
     clear hd
     go_upto_region 4 with fail
     change Code.wp _ _ _ _ (w2.alloc (.cells (tlCells t q).toArray 24))
     generalize w2.alloc (.cells (tlCells t q).toArray 24)=w3 at *
     generalize w2.heap.size=B1 at *
     go_wp2_with fail
     refine (HBD.out _).mono ?_
     rintro e w4 ⟨rfl,hd⟩
     replace VO:=Lh (VO.out.kept hd)
     replace hb:=hb.trans (hd.mono hb.size)
     replace hat:=Tls.At.kept hat hd
     replace V1:=Lh (V1.out.kept hd)
     clear hd HBD
     have hB2:=VO.out.lt
     have V2:=Lh (VarAt.new w4 29 (Brd.enc bb))
     have hd:Below w4.heap.size w4 (w4.alloc (.cells (Brd.enc bb).toArray 29)):=(Below.refl _ _).alloc (Nat.le_refl _) _
     replace VO:=Lh (VO.out.kept hd)
     replace hb:=hb.trans (hd.mono hb.size)
     replace hat:=Tls.At.kept hat hd
     replace V1:=Lh (V1.out.kept hd)
     clear hd
     go_upto_region 5 with fail
     change Code.wp _ _ _ _ (w4.alloc (.cells (Brd.enc bb).toArray 29))
     generalize w4.alloc (.cells (Brd.enc bb).toArray 29)=w5 at *
     generalize w4.heap.size=B2 at *
     go_wp2_with fail
     refine (HRL.out _).mono ?_
     rintro e w6 ⟨rfl,rfl⟩
     clear HRL
     go_wp2_with fail
     refine (HSD.out _).mono ?_
     rintro e w6 ⟨rfl,rfl⟩
     clear HSD
     go_upto_region 6 with fail
     clear V1 V2 hat
     have tR:=VO.out.there (n:=30) rfl
     obtain ⟨o6,k6⟩:=VO.out.put gnone rfl
     have hb6:=hb.grown k6 hb.size (fun k h=>by cases h;exact Nat.le_refl _)
     have rZ:=o6.range
     clear o6 k6 hb VO
     refine wp_region_list ?_
     refine wpList_plain rfl (fun K hK=>?_)
     try simp only [Act.put,S3]
     go_simp
     refine hK _ _ ?_
     clear hK K
     refine wpList_store_mid rfl 37 _ _ rfl w.heap.size 0 gnone.toArray rfl rfl tR size_none (all_oneCell_toArray gnone_all) ?_
     change wpList _ _ _ _ _ (w5.setCells w.heap.size 0 gnone)
     generalize w5.setCells w.heap.size 0 gnone=wZ at *
     clear tR
     have HV:=Lh (run_loadVar_mid (P:=Tryz.prog) wZ w.heap.size 0 37 gnone _ rZ Tryz.underlying37 rfl size_none)
     clear rZ
     go_wp2
     refine bodyPost_ret (results_cell_tmp_var Tryz.results7 _ _ _ _ rfl HV.out) rfl ?_
     exact ⟨qn,rfl,none_zz _ _,none_oo,hb6⟩
    | true =>
     rw [make_good htn (by rw [hz,hr,hs];rfl)]
     have hsd:0≤sd∧sd≤2147483647:=by simpa only [withinB,Bool.and_eq_true,decide_eq_true_eq] using hs
     obtain ⟨x,rfl⟩:∃ x:Nat,sd=(x:Int):=⟨sd.toNat,by omega⟩
     have hx:x < 2147483648:=by omega
     have hxx:(x:Int).toNat=x:=by simp
     rw [hxx]
     rw [hs] at HSD
     have HSH:=Lh (fun W q (h:t.At q W)=>implShuffleBag_any t q x W h hst hx)
     have hmo:=made_ok hst hz hr
     have hbf:=shuf_bag hst x
     have HST:Hid (∀ W r,(madeS t z rl).At r W→EnvL W→Calls Tryz.prog 32 #[.agg (scells (madeS t z rl) r).toArray,.string (mkB (shuf x (allL t)))] W (StartPost (startG (madeS t z rl) (shuf x (allL t))) W)):=Lh (fun W r h h2=>implStart_any (madeS t z rl) r (shuf x (allL t)) W h hmo hbf (made_fit hst hz) (made_small hst z rl) (by have:=hst.len.1;show t.letters.size≤_;omega) h2)
     have HSE:Hid (madeS t z rl=⟨t,stdWords,bb,600,rl⟩):=Lh (by unfold madeS;rw [hbb])
     rw [HSE.out] at HST
     rw [HSE.out]
     obtain ⟨xg,hxg⟩:∃ y,y=startG ⟨t,stdWords,bb,600,rl⟩ (shuf x (allL t)):=⟨_,rfl⟩
     rw [← hxg] at HST
     rw [← hxg]
     have HSX:Hid (∀ (k:String),k=k):=Lh (fun _=>rfl)
     clear hz hr hs htn hst hXT hX hbb hbo hmo hbf HSE hxg hxx HSX hsd
     generalize mkB (shuf x (allL t))=bag at *
     go_enter Tryz.func7,Tryz.ntmps7
     go_upto_region 1 with fail
     change Code.wp _ _ _ _ (w.alloc (.cells gnone.toArray 37))
     generalize w.alloc (.cells gnone.toArray 37)=w1 at *
     go_wp2_with fail
     refine (HT.out _ (HENV.out.kept hb)).mono ?_
     rintro e w2 ⟨q,rfl,hat,hd⟩
     replace hat:=Tls.Own.at hat
     replace VO:=Lh (VO.out.kept hd)
     replace hb:=hb.trans (hd.mono hb.size)
     clear hd HT
     have hB1:=VO.out.lt
     have V1:=Lh (VarAt.new w2 24 (tlCells t q))
     have hd:Below w2.heap.size w2 (w2.alloc (.cells (tlCells t q).toArray 24)):=(Below.refl _ _).alloc (Nat.le_refl _) _
     replace VO:=Lh (VO.out.kept hd)
     replace hb:=hb.trans (hd.mono hb.size)
     replace hat:=Tls.At.kept hat hd
     clear hd
     go_upto_region 4 with fail
     change Code.wp _ _ _ _ (w2.alloc (.cells (tlCells t q).toArray 24))
     generalize w2.alloc (.cells (tlCells t q).toArray 24)=w3 at *
     generalize w2.heap.size=B1 at *
     go_wp2_with fail
     refine (HBD.out _).mono ?_
     rintro e w4 ⟨rfl,hd⟩
     replace VO:=Lh (VO.out.kept hd)
     replace hb:=hb.trans (hd.mono hb.size)
     replace hat:=Tls.At.kept hat hd
     replace V1:=Lh (V1.out.kept hd)
     clear hd HBD
     have hB2:=VO.out.lt
     have V2:=Lh (VarAt.new w4 29 (Brd.enc bb))
     have hd:Below w4.heap.size w4 (w4.alloc (.cells (Brd.enc bb).toArray 29)):=(Below.refl _ _).alloc (Nat.le_refl _) _
     replace VO:=Lh (VO.out.kept hd)
     replace hb:=hb.trans (hd.mono hb.size)
     replace hat:=Tls.At.kept hat hd
     replace V1:=Lh (V1.out.kept hd)
     clear hd
     go_upto_region 5 with fail
     change Code.wp _ _ _ _ (w4.alloc (.cells (Brd.enc bb).toArray 29))
     generalize w4.alloc (.cells (Brd.enc bb).toArray 29)=w5 at *
     generalize w4.heap.size=B2 at *
     go_wp2_with fail
     refine (HRL.out _).mono ?_
     rintro e w6 ⟨rfl,rfl⟩
     clear HRL
     go_wp2_with fail
     refine (HSD.out _).mono ?_
     rintro e w6 ⟨rfl,rfl⟩
     clear HSD
     have c0:=V1.out.cell (i:=0) rfl
     have c1:=V1.out.cell (i:=1) rfl
     have c2:=V1.out.cell (i:=2) rfl
     have c3:=V1.out.cell (i:=3) rfl
     go_wp2_with fail
     refine (HSH.out _ q hat).mono ?_
     rintro e w6 ⟨rfl,hd⟩
     replace VO:=Lh (VO.out.kept hd)
     replace hb:=hb.trans (hd.mono hb.size)
     replace hat:=Tls.At.kept hat hd
     replace V1:=Lh (V1.out.kept hd)
     replace V2:=Lh (V2.out.kept hd)
     clear hd HSH c0 c1 c2 c3
     go_upto_region 8 with fail
     have hd:Below w6.heap.size w6 w6.drew:=(Below.refl _ _).drew
     replace VO:=Lh (VO.out.kept hd)
     replace hb:=hb.trans (hd.mono hb.size)
     replace hat:=Tls.At.kept hat hd
     replace V1:=Lh (V1.out.kept hd)
     replace V2:=Lh (V2.out.kept hd)
     clear hd
     refine wp_region_held_drew (S:=fun W=>W.rangeAt B1 0 (tlCells t q)∧W.rangeAt B2 0 (Brd.enc bb)) (by kernel_rfl) ⟨V1.out.range,V2.out.range⟩ (fun hHeld=>?_)
     generalize w6.drew=wd at *
     have hlo:=VO.out.lt
     refine slotA 0 48 (.agg (tlCells t q).toArray) ?_ (hy:=yieldsIf_load_mid (by rfl) 24 _ rfl B1 0 rfl (tlCells t q) _ (fun w' hS=>hS.1) Tryz.underlying24 rfl (by kernel_rfl))
     simp only [S3]
     refine slotA 3 51 (.agg (Brd.enc bb).toArray) ?_ (hy:=yieldsIf_load_mid (by rfl) 29 _ rfl B2 0 rfl (Brd.enc bb) _ (fun w' hS=>hS.2) Tryz.underlying29 rfl (by kernel_rfl))
     simp only [S3]
     refine slotA 4 52 (.int .i64 rl) ?_
     simp only [S3]
     refine slotA 6 54 (.string bag) ?_
     simp only [S3]
     refine wpAnyH_ready (rs:=[1]) (by kernel_rfl) (by simp) ?_
     refine AllReadyH.cons (o:=_) rfl (fun K hK=>?_) AllReadyH.nil
     go_simp
     refine (HWD.out _ (HENV.out.kept hb)).mono ?_
     rintro e w7 ⟨G,cap,rfl,ho,hd⟩
     have hlx:SliceAt w7 1 Tx.enc (some ⟨G,0,none⟩) stdWords:=own_slice Tx.enc_len ho rfl
     replace VO:=Lh (VO.out.kept hd)
     replace hb:=hb.trans (hd.mono hb.size)
     replace hat:=Tls.At.kept hat hd
     replace V1:=Lh (V1.out.kept hd)
     replace V2:=Lh (V2.out.kept hd)
     clear hd ho HWD hHeld
     go_wp2_with fail
     refine hK.out _ _ ⟨V1.out.range,V2.out.range⟩ (fun hHeld=>?_)
     clear hK K
     refine slotA 2 50 (.agg #[.slice (some ⟨G,0,none⟩) stdWords.length cap]) ?_
     simp only [S3]
     simp only [tlCells,Brd.enc]
     refine slotA 5 53 (.agg (scells ⟨t,stdWords,bb,600,rl⟩ ⟨q,⟨some ⟨G,0,none⟩,cap⟩⟩).toArray) ?_ (hy:=Or.inl ⟨by rfl,fun w' _=>by go_simp;rfl⟩)
     simp only [S3]
     have hsa:Stp.At ⟨t,stdWords,bb,600,rl⟩ ⟨q,⟨some ⟨G,0,none⟩,cap⟩⟩ w7:=⟨hat,hlx⟩
     refine wpAnyH_ready (rs:=[7]) (by kernel_rfl) (by simp) ?_
     refine AllReadyH.cons (o:=_) rfl (fun K hK=>?_) AllReadyH.nil
     go_simp
     refine (HST.out _ _ hsa (HENV.out.kept hb).L).mono ?_
     rintro e w8 ⟨r,rfl,hz,ho,hd⟩
     have HZ0:=Lh hz
     have HO:=Lh ho
     have hlo2:=VO.out.lt
     replace VO:=Lh (VO.out.kept hd)
     replace hb:=hb.trans (hd.mono hb.size)
     replace V1:=Lh (V1.out.kept hd)
     replace V2:=Lh (V2.out.kept hd)
     clear hd hz ho hsa hat hlx HST hHeld
     go_wp2_with fail
     refine hK.out _ _ ⟨V1.out.range,V2.out.range⟩ (fun hHeld=>?_)
     clear hK K
     refine slotA 8 56 (.agg (gcells xg r).toArray) ?_
     simp only [S3]
     refine slotA 9 57 (.int .i64 0) ?_
     simp only [S3]
     have tR:=VO.out.there (n:=30) rfl
     obtain ⟨o6,k6⟩:=VO.out.put (gcells xg r) rfl
     have HZ:=Lh ((HZ0.out.store k6 hlo2).mono (show w.heap.size≤w7.heap.size by omega))
     have hb7:=hb.grown k6 hb.size (fun k h=>by cases h;omega)
     have rZ:=o6.range
     have h1:=V1.out.range
     have h2:=V2.out.range
     have hHeld4:(w8.setCells w.heap.size 0 (gcells xg r)).rangeAt B1 0 (tlCells t q)∧(w8.setCells w.heap.size 0 (gcells xg r)).rangeAt B2 0 (Brd.enc bb):=⟨fun j v hv=>k6.cell (h1 j v hv) (by simp;omega),fun j v hv=>k6.cell (h2 j v hv) (by simp;omega)⟩
     clear o6 k6 hb VO HZ0 h1 h2 V1 V2
     refine wpAnyH_ready (rs:=[10]) (by kernel_rfl) (by simp) ?_
     refine AllReadyH.cons (o:=_) rfl (fun K hK=>?_) AllReadyH.nil
     refine mk_store rfl rfl 37 (.tmp 8) (.tmp 56) rfl w.heap.size 0 (gcells xg r).toArray rfl rfl tR (size_game _ _) (all_oneCell_toArray (gcells_all1 _ _)) ?_
     refine hK.out _ _ hHeld4 (fun hHeld5=>?_)
     change wpAnyH _ _ _ _ _ _ _ _ (w8.setCells w.heap.size 0 (gcells xg r))
     clear hK K tR hHeld4 hHeld
     generalize w8.setCells w.heap.size 0 (gcells xg r)=wZ at *
     refine slotA 11 9 (.int .i64 0) ?_
     simp only [S3]
     refine wpAnyH_done (by kernel_rfl) ?_ _
     clear hHeld5
     have HV:=Lh (run_loadVar_mid (P:=Tryz.prog) wZ w.heap.size 0 37 (gcells xg r) _ rZ Tryz.underlying37 rfl (size_game _ _))
     clear rZ
     go_wp2
     refine bodyPost_ret (results_cell_tmp_var Tryz.results7 _ _ _ _ rfl HV.out) rfl ?_
     exact ⟨r,rfl,HZ.out,HO.out,hb7⟩
end Go.Proofs.YtgphkffbbmmmmaaGreatDoor
