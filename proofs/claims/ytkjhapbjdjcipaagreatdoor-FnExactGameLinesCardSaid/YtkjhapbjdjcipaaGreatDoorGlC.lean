/- Plain definitions: the lines of a game. Contracts: a line of a board (the reference), the  · Contracts: the lines of a game: the reference. A game that can be read. · Contracts: the lines of a game: the program. Go's tables of unicode, unicode/utf8 and strc -/
import Derived.Test.YtkjhapbjdjcipaaGreatDoorGsB
import Derived.Test.YtkjhapbjdjcipaaGreatDoorGpG
import Derived.Deep.AppendLies
import Derived.Test.YtkjhapbjdjcipaaGreatDoorGmN
set_option maxRecDepth 100000
set_option maxHeartbeats 4000000
namespace Go.Proofs.YtkjhapbjdjcipaaGreatDoor
open Go.ChangeShapes Go.WideShapes Go.ChangeAt Go.RowKit Go.Sort

def lineB (s:ByteArray) (n k:Nat):ByteArray:=s.extract (k * n) ((k+1) * n)
def rowsB (s:ByteArray) (n:Nat):List ByteArray:=(List.range n).map (lineB s n)
theorem rowsB_len (s:ByteArray) (n:Nat):(rowsB s n).length=n:=by simp [rowsB]
theorem rowsB_next {s:ByteArray} {n k:Nat} (h:k < n):(rowsB s n).take (k+1)=(rowsB s n).take k++[lineB s n k]:=by
 have h2:k < (rowsB s n).length:=by rw [rowsB_len];exact h
 have e:(rowsB s n)[k]=lineB s n k:=by simp only [rowsB,List.getElem_map,List.getElem_range]
 rw [List.take_succ_eq_append_getElem h2,e]
theorem rowsB_all (s:ByteArray) (n:Nat):(rowsB s n).take n=rowsB s n:=List.take_of_length_le (by rw [rowsB_len];exact Nat.le_refl _)
/-- the lines of a valid game -/
def Gam.linesL (x:Gam):List ByteArray:=rowsB x.board.cells x.board.size.toNat++[⟨#[114,97,99,107,32,48,32]⟩++x.rack 0,⟨#[114,97,99,107,32,49,32]⟩++x.rack 1,mkB x.lineL]
def Gam.lines (x:Gam):List ByteArray × Int:=if x.ok=true then (x.linesL,0) else ([],1)
theorem Gam.lines0 {x:Gam} (h:x.ok=false):x.lines=([],1):=by unfold Gam.lines;rw [h];rfl
theorem Gam.lines1 {x:Gam} (h:x.ok=true):x.lines=(x.linesL,0):=by unfold Gam.lines;rw [if_pos h]
theorem Gam.linesL_len (x:Gam):x.linesL.length=x.board.size.toNat+3:=by
 unfold Gam.linesL
 rw [List.length_append,rowsB_len]
 rfl
theorem Gam.lines_len {x:Gam}:x.lines.1.length≤100:=by
 cases h:x.ok with
 | false=>rw [Gam.lines0 h];exact Nat.zero_le _
 | true =>
  rw [Gam.lines1 h]
  show x.linesL.length≤100
  rw [Gam.linesL_len]
  obtain ⟨n,hn⟩:=Brd.good (Gam.fine h).board
  have h1:=hn.size
  have h2:=hn.hi
  omega
theorem Gam.lines_small (x:Gam):x.lines.1.length≤1048576:=Nat.le_trans Gam.lines_len (by decide)
structure Cuts (n k s0 s1:Nat):Prop where
 p0:(k:Int) * (n:Int)=(s0:Int)
 p1:((k:Int)+1) * (n:Int)=(s1:Int)
 w0:IntKind.i64.wrap (s0:Int)=s0
 w1:IntKind.i64.wrap (s1:Int)=s1
 le:s0≤s1
 hi:s1≤n * n
theorem cuts {n k:Nat} (hk:k < n) (hn:n≤15):Cuts n k (k * n) ((k+1) * n):=by
 have h1:(k+1) * n≤n * n:=Nat.mul_le_mul_right n hk
 have h2:n * n≤15 * 15:=Nat.mul_le_mul hn hn
 have h3:k * n≤(k+1) * n:=Nat.mul_le_mul_right n (Nat.le_succ k)
 exact ⟨by push_cast;rfl,by push_cast;rfl,IntWalk.i64_in _ (by omega),IntWalk.i64_in _ (by omega),h3,h1⟩
theorem l11Line_any (b:Brd) (n k g o:Nat) (w:World) (hb:b.Good n) (hk:k < n) (hg:BAt w g o b) :
  Calls Tryz.prog 115 #[.pointer (some ⟨g,o,none⟩),.int .i64 k] w fun e w'=>e=.returned (.string (lineB b.cells n k))∧Below w.heap.size w w':=by
 obtain ⟨g0,_,g2⟩:=hg
 have hn:=hb.hi
 rw [hb.size] at g0
 have hcs:b.cells.size=n * n:=hb.cells
 obtain ⟨p0,p1,w0,w1,le,hi⟩:=cuts hk hn
 have wk:IntKind.i64.wrap ((k:Int)+1)=(k:Int)+1:=IntWalk.i64_in _ (by omega)
 have HL:Hid (lineB b.cells n k=b.cells.extract (k * n) ((k+1) * n)):=Lh rfl
 rw [← hcs] at hi
 generalize k * n=s0 at *
 generalize (k+1) * n=s1 at *
 clear hb hk hn hcs
 go_enter Tryz.func115,Tryz.ntmps115
 go_upto_region 1 with fail
 go_quiet (fail)
 have hd:Below w.heap.size w (w.drewN nq):=(Drew.drewN (Drew.refl _) nq).below _
 generalize w.drewN nq=w9 at *
 go_wp2
 go_ret
 exact ⟨by rw [HL.out];rfl,hd⟩
theorem rows_any (b:Brd) (n:Nat) (s:ByteArray) (w:World) (hb:b.size=(n:Int)) (hn:n≤15) (hs:s.size=n * n) :
  Calls Tryz.prog 60 #[.agg #[.int .i64 b.size,.string b.premium,.string b.cells],.string s] w (TextsPost w (rowsB s n)):=by
 obtain ⟨i0,hi0,hi1,hi2,hi3⟩:=info_parts infoTx
 rw [hb]
 have V0:=VarAt.new w 41 [.int .i64 n,.string b.premium,.string b.cells]
 have hb0:Below w.heap.size w (w.alloc (.cells #[.int .i64 n,.string b.premium,.string b.cells] 41)):=(Below.refl _ _).alloc (Nat.le_refl _) _
 have HNX:=Lh (fun k (h:k < n)=>rowsB_next (s:=s) h)
 have HAL:=Lh (rowsB_all s n)
 have HRL:=Lh (rowsB_len s n)
 have HCU:=Lh (fun k (h:k < n)=>cuts h hn)
 unfold TextsPost
 rw [HRL.out]
 clear hb
 go_enter Tryz.func60,Tryz.ntmps60
 go_upto_region 1 with fail
 change Code.wp _ _ _ _ (w.alloc (.cells ([.int .i64 n,.string b.premium,.string b.cells]:List Value).toArray 41))
 change Below w.heap.size w (w.alloc (.cells ([.int .i64 n,.string b.premium,.string b.cells]:List Value).toArray 41)) at hb0
 generalize w.alloc (.cells ([.int .i64 n,.string b.premium,.string b.cells]:List Value).toArray 41)=w1 at *
 have hlt:=V0.lt
 have hx:Below w1.heap.size w1 (w1.alloc (.cells #[] 9)):=(Below.refl _ _).alloc (Nat.le_refl _) _
 have HO:Hid ((w1.alloc (.cells #[] 9)).ownsRow w.heap.size 9 1 (.slice (some ⟨w1.heap.size,0,none⟩) 0 0) 0 (((rowsB s n).take 0).flatMap Tx.enc)):=Lh (own_mono (own_empty w1 9) (Nat.le_of_lt hlt))
 have VB:=Lh (V0.kept hx)
 have hbx:=hb0.trans (hx.mono hb0.size)
 have hne:w1.heap.size≠w.heap.size:=by omega
 clear hx V0 hb0
 go_upto_region 3 with fail
 generalize w1.alloc (.cells #[] 9)=w2 at *
 generalize w1.heap.size=g0 at *
 go_loopw [5,6] (fun ov rv wr=>∃ (k g1 cap:Nat),k≤n∧rv=.int .i64 k∧ov=.slice (some ⟨g1,0,none⟩) k cap∧g1≠w.heap.size∧Hid (wr.ownsRow w.heap.size 9 1 (.slice (some ⟨g1,0,none⟩) k cap) k (((rowsB s n).take k).flatMap Tx.enc))∧Hid (VarAt wr w.heap.size 41 [.int .i64 n,.string b.premium,.string b.cells])∧Below w.heap.size w wr) (fun _ rv _=>n - (intOf rv).toNat)
 case atStart=>exact ⟨0,g0,0,Nat.zero_le _,rfl,rfl,hne,HO,VB,hbx⟩
 case round =>
  clear HO VB hbx hne hlt
  obtain ⟨k,g1,cap,hk,rfl,rfl,hgn,HR,VB,hb⟩:=hrel
  have v0:=VB.out.cell (i:=0) rfl
  by_cases hlt:k < n
  ·obtain ⟨p0,p1,w0,w1,le,hi⟩:=HCU.out k hlt
   have wk:IntKind.i64.wrap ((k:Int)+1)=(k:Int)+1:=IntWalk.i64_in _ (by omega)
   have HN1:=Lh (HNX.out k hlt)
   have HL:Hid (lineB s n k=s.extract (k * n) ((k+1) * n)):=Lh rfl
   rw [HL.out] at HN1
   rw [← hs] at hi
   clear HNX HAL HRL HCU HL
   generalize k * n=s0 at *
   generalize (k+1) * n=s1 at *
   have hki:(k:Int) < (n:Int):=by omega
   have hx:Below wr.heap.size wr (wr.alloc (.cells #[.string (s.extract s0 s1)] 9)):=(Below.refl _ _).alloc (Nat.le_refl _) _
   have KN:=Lh (new_tx wr (s.extract s0 s1) 9)
   have hz2:=hb.size
   replace HR:=Lh (own_below HR.out hx)
   have hbx:=hb.trans (hx.mono hb.size)
   have VBx:=Lh (VB.out.kept hx)
   clear hx hb VB
   go_wp2_with (at_builtin;go_must (refine wpList_append_lies _ rfl (.tmp 14) (.tmp 26) 25 rfl w.heap.size 9 i0 _ 1 16 Tryz.underlying25 hi0 hi1 hi2 hi3 rfl (by decide) _ k (((rowsB s n).take k).flatMap Tx.enc) (by rfl) HR.out ⟨wr.heap.size,0,none⟩ 1 1 (Tx.enc (s.extract s0 s1)) (by rfl) rfl KN.out (tx_one _) (by decide) ?c1 ?c2 ?c3 _ rfl ?_))
   case c1=>unfold maxLen;omega
   case c2=>omega
   case c3=>(first | omega | (simp only [World.size_alloc];omega))
   intro g7 cap7 w7 hown hgr hwh hlt7
   have hgs:=VBx.out.lt
   have hg7:g7≠w.heap.size:=by
    rcases hwh with h | h
    ·have e9:g1=g7:=Option.some.inj h
     omega
    ·try simp only [World.size_alloc] at h hgs
     omega
   have VB7:=Lh (VBx.out.grown hgr (by intro e;exact hgn (Option.some.inj e).symm))
   have hb7:=hbx.grown hgr hbx.size (fun q e=>(HR.out.lt q e).1)
   have HR7:Hid (w7.ownsRow w.heap.size 9 1 (.slice (some ⟨g7,0,none⟩) (k+1) cap7) (k+1) (((rowsB s n).take (k+1)).flatMap Tx.enc)):=Lh (by rw [HN1.out,← flat_snoc];exact hown)
   clear hown hgr hwh hlt7 KN hz2 HR VBx hbx hgs v0 HN1
   go_wp2
   go_roundw
   case rel=>exact ⟨k+1,g7,cap7,by omega,by go_num,rfl,hg7,HR7,VB7,hb7⟩
   case measure=>simp [intOf];omega
  ·obtain rfl:k=n:=by omega
   have HR2:Hid (wr.ownsRow w.heap.size 9 1 (.slice (some ⟨g1,0,none⟩) k cap) k ((rowsB s k).flatMap Tx.enc)):=Lh (by have:=HR.out;rw [HAL.out] at this;exact this)
   clear HR HNX HAL HRL HCU VB
   go_wp2
   go_ret
   exact ⟨g1,cap,rfl,HR2.out,hb⟩
end Go.Proofs.YtkjhapbjdjcipaaGreatDoor
set_option maxRecDepth 100000
set_option maxHeartbeats 4000000
namespace Go.Proofs.YtkjhapbjdjcipaaGreatDoor
open Go.ChangeShapes Go.WideShapes Go.ChangeAt Go.RowKit Go.Sort

theorem new_three (w:World) (a b c:ByteArray) (e:TypeId):∀ j u,([a,b,c].flatMap Tx.enc)[j]?=some u→(w.alloc (.cells #[.string a,.string b,.string c] e)).cell? ((⟨w.heap.size,0,none⟩:Addr).add j)=some u:=by
 intro j u hu
 have h:=VarAt.new w e [.string a,.string b,.string c]
 have hj:([.string a,.string b,.string c]:List Value)[j]?=some u:=hu
 rw [Go.Addr.add_lit,Nat.zero_add]
 exact h.cell hj
theorem three_one (a b c:ByteArray):∀ u∈[a,b,c].flatMap Tx.enc,u.oneCell'=true:=by
 intro u hu
 obtain ⟨y,_,hy⟩:=List.mem_flatMap.1 hu
 exact tx_one y u hy
theorem l27Lines_any (x:Gam) (p:GaA) (g:Nat) (w:World) (hg:GAt w g x p) (hk:x.ok=true) :
  Calls Tryz.prog 59 #[.pointer (some ⟨g,0,none⟩)] w (TextsPost w x.linesL):=by
 obtain ⟨i0,hi0,hi1,hi2,hi3⟩:=info_parts infoTx
 have hf:=Gam.fine hk
 obtain ⟨n,hn⟩:=Brd.good hf.board
 have hn15:=hn.hi
 have hsz:=hn.size
 have hr0:(x.rack 0).size≤7:=by have:=(rack_pile (hf.rack 0 (by decide))).2;simpa using this
 have hr1:(x.rack 1).size≤7:=by have:=(rack_pile (hf.rack 1 (by decide))).2;simpa using this
 have hrl:=hf.racks
 have HG:=Lh hg
 have hgl:=hg.lt
 have HL1:Hid (∀ k,k < n→∀ W,GAt W g x p→Calls Tryz.prog 115 #[.pointer (some ⟨g,10,none⟩),.int .i64 k] W fun e w'=>e=.returned (.string (lineB x.board.cells n k))∧Below W.heap.size W w'):=Lh (fun k h W h2=>l11Line_any x.board n k g 10 W hn h h2.board)
 have HLN:Hid (∀ W,GAt W g x p→Calls Tryz.prog 56 #[.pointer (some ⟨g,0,none⟩)] W (StrPost W x.lineL)):=Lh (fun W h=>l27Line_any x p g W h hk)
 have HNX:=Lh (fun k (h:k < n)=>rowsB_next (s:=x.board.cells) h)
 have HAL:=Lh (rowsB_all x.board.cells n)
 have HRS:Hid (x.linesL=rowsB x.board.cells n++[⟨#[114,97,99,107,32,48,32]⟩++x.rack 0,⟨#[114,97,99,107,32,49,32]⟩++x.rack 1,mkB x.lineL]):=Lh (by unfold Gam.linesL;rw [hsz,Int.toNat_natCast])
 have HLL:Hid (x.linesL.length=n+3):=Lh (by rw [Gam.linesL_len,hsz,Int.toNat_natCast])
 have HSZ:=Lh hsz
 have hx:Below w.heap.size w (w.alloc (.cells #[] 9)):=(Below.refl _ _).alloc (Nat.le_refl _) _
 have HO:Hid ((w.alloc (.cells #[] 9)).ownsRow w.heap.size 9 1 (.slice (some ⟨w.heap.size,0,none⟩) 0 0) 0 (((rowsB x.board.cells n).take 0).flatMap Tx.enc)):=Lh (own_empty w 9)
 unfold StrPost at HLN
 unfold TextsPost
 rw [HLL.out]
 generalize rowsB x.board.cells n=rows at *
 clear hg hk hf hn hsz
 go_enter Tryz.func59,Tryz.ntmps59
 go_upto_region 3 with fail
 have c10:=HG.out.cell (i:=10) rfl
 rw [HSZ.out] at c10
 generalize w.alloc (.cells #[] 9)=w1 at *
 go_loopw [3,4] (fun ov rv wr=>∃ (k g1 cap:Nat),k≤n∧rv=.int .i64 k∧ov=.slice (some ⟨g1,0,none⟩) k cap∧Hid (wr.ownsRow w.heap.size 9 1 (.slice (some ⟨g1,0,none⟩) k cap) k ((rows.take k).flatMap Tx.enc))∧Below w.heap.size w wr) (fun _ rv _=>n - (intOf rv).toNat)
 case atStart=>exact ⟨0,w.heap.size,0,Nat.zero_le _,rfl,rfl,HO,hx⟩
 case round =>
  clear HO hx
  obtain ⟨k,g1,cap,hk,rfl,rfl,HR,hb⟩:=hrel
  have v0:=cell_kept c10 hb
  by_cases hlt:k < n
  ·have HN1:=Lh (HNX.out k hlt)
   have HLk:=Lh (HL1.out k hlt)
   have wk:IntKind.i64.wrap ((k:Int)+1)=(k:Int)+1:=IntWalk.i64_in _ (by omega)
   have hki:(k:Int) < (n:Int):=by omega
   clear HNX HAL HL1 HRS HLN
   generalize lineB x.board.cells n k=tx at *
   go_wp2_with fail
   refine (HLk.out _ (HG.out.kept hb)).mono ?_
   rintro e wa ⟨rfl,hd⟩
   clear HLk v0
   replace hb:=hb.trans (hd.mono hb.size)
   replace HR:=Lh (own_below HR.out hd)
   clear hd
   have hx:Below wa.heap.size wa (wa.alloc (.cells #[.string tx] 9)):=(Below.refl _ _).alloc (Nat.le_refl _) _
   have KN:=Lh (new_tx wa tx 9)
   have hz2:=hb.size
   replace HR:=Lh (own_below HR.out hx)
   have hbx:=hb.trans (hx.mono hb.size)
   clear hx hb
   go_wp2_with (at_builtin;go_must (refine wpList_append_lies _ rfl (.tmp 15) (.tmp 21) 25 rfl w.heap.size 9 i0 _ 1 16 Tryz.underlying25 hi0 hi1 hi2 hi3 rfl (by decide) _ k ((rows.take k).flatMap Tx.enc) (by rfl) HR.out ⟨wa.heap.size,0,none⟩ 1 1 (Tx.enc tx) (by rfl) rfl KN.out (tx_one _) (by decide) ?c1 ?c2 ?c3 _ rfl ?_))
   case c1=>unfold maxLen;omega
   case c2=>omega
   case c3=>(first | omega | (simp only [World.size_alloc];omega))
   intro g7 cap7 w7 hown hgr hwh hlt7
   have hb7:=hbx.grown hgr hbx.size (fun q e=>(HR.out.lt q e).1)
   have HR7:Hid (w7.ownsRow w.heap.size 9 1 (.slice (some ⟨g7,0,none⟩) (k+1) cap7) (k+1) ((rows.take (k+1)).flatMap Tx.enc)):=Lh (by rw [HN1.out,← flat_snoc];exact hown)
   clear hown hgr hwh hlt7 KN hz2 HR hbx HN1
   go_wp2
   go_roundw
   case rel=>exact ⟨k+1,g7,cap7,by omega,by go_num,rfl,HR7,hb7⟩
   case measure=>simp [intOf];omega
  ·obtain rfl:k=n:=by omega
   clear HL1 HNX hlt
   go_upto_region 6 with fail
   have hd:Below wr.heap.size wr wr.drew:=(Below.refl _ _).drew
   replace hb:=hb.trans (hd.mono hb.size)
   have HR2:Hid (wr.drew.ownsRow w.heap.size 9 1 (.slice (some ⟨g1,0,none⟩) k cap) k (rows.flatMap Tx.enc)):=Lh (by have:=own_below HR.out hd;rw [HAL.out] at this;exact this)
   clear hd HR HAL v0 c10
   obtain ⟨rb,ro,hra,hrc⟩:=(HG.out.at_.2.1).open (show 0 < x.racks.length by omega)
   have t0:w.cell? ⟨rb,ro+0,none⟩=some (.string (x.rack 0)):=words_cell hrc (show 0 < x.racks.length by omega)
   have t1:w.cell? ⟨rb,ro+1,none⟩=some (.string (x.rack 1)):=words_cell hrc (show 1 < x.racks.length by omega)
   rw [Nat.add_zero] at t0
   have c14:=HG.out.cell (i:=14) rfl
   rw [hra,hrl] at c14
   have HSF:Hid (∀ W,Below w.heap.size w W→W.cell? ⟨g,14,none⟩=some (.slice (some ⟨rb,ro,none⟩) 2 p.racks.c)∧W.cell? ⟨rb,ro,none⟩=some (.string (x.rack 0))∧W.cell? ⟨rb,ro+1,none⟩=some (.string (x.rack 1))):=Lh (fun W h=>⟨cell_kept c14 h,cell_kept t0 h,cell_kept t1 h⟩)
   clear c14 t0 t1 hra hrc
   generalize x.rack 0=r0 at *
   generalize x.rack 1=r1 at *
   have z0:7+r0.size≤9223372036854775807:=by omega
   have z1:7+r1.size≤9223372036854775807:=by omega
   refine wp_region_held_drew (S:=fun W=>W.cell? ⟨g,14,none⟩=some (.slice (some ⟨rb,ro,none⟩) 2 p.racks.c)∧W.cell? ⟨rb,ro,none⟩=some (.string r0)∧W.cell? ⟨rb,ro+1,none⟩=some (.string r1)) (by kernel_rfl) (HSF.out _ hb) (fun hHeld=>?_)
   generalize wr.drew=wd at *
   refine slotA 0 23 (.slice (some ⟨g1,0,none⟩) k cap) ?_
   simp only [S3]
   refine slotA 1 24 (.pointer (some ⟨g,0,none⟩)) ?_
   simp only [S3]
   refine slotA 2 25 (.pointer (some ⟨g,0,none⟩)) ?_
   simp only [S3]
   refine slotA 3 26 (.pointer (some ⟨g,14,none⟩)) ?_
   simp only [S3]
   refine slotA 4 27 (.slice (some ⟨rb,ro,none⟩) 2 p.racks.c) ?_ (hy:=Or.inl ⟨by rfl,fun w' hS=>by have c9:=hS.1;go_simp⟩)
   simp only [S3]
   refine slotA 5 28 (.pointer (some ⟨rb,ro,none⟩)) ?_
   simp only [S3]
   refine slotA 6 29 (.string r0) ?_ (hy:=Or.inl ⟨by rfl,fun w' hS=>by have c9:=hS.2.1;go_simp⟩)
   simp only [S3]
   refine slotA 7 30 (.string (⟨#[114,97,99,107,32,48,32]⟩++r0)) ?_
   simp only [S3]
   refine slotA 8 31 (.pointer (some ⟨g,0,none⟩)) ?_
   simp only [S3]
   refine slotA 9 32 (.pointer (some ⟨g,0,none⟩)) ?_
   simp only [S3]
   refine slotA 10 33 (.pointer (some ⟨g,14,none⟩)) ?_
   simp only [S3]
   refine slotA 11 34 (.slice (some ⟨rb,ro,none⟩) 2 p.racks.c) ?_ (hy:=Or.inl ⟨by rfl,fun w' hS=>by have c9:=hS.1;go_simp⟩)
   simp only [S3]
   refine slotA 12 35 (.pointer (some ⟨rb,ro+1,none⟩)) ?_
   simp only [S3]
   refine slotA 13 36 (.string r1) ?_ (hy:=Or.inl ⟨by rfl,fun w' hS=>by have c9:=hS.2.2;go_simp⟩)
   simp only [S3]
   refine slotA 14 37 (.string (⟨#[114,97,99,107,32,49,32]⟩++r1)) ?_
   simp only [S3]
   refine slotA 15 38 (.pointer (some ⟨g,0,none⟩)) ?_
   simp only [S3]
   refine wpAnyH_ready (rs:=[16]) (by kernel_rfl) (by simp) ?_
   refine AllReadyH.cons (o:=_) rfl (fun K hK=>?_) AllReadyH.nil
   go_simp
   refine (HLN.out _ (HG.out.kept hb)).mono ?_
   rintro e wa ⟨rfl,hd⟩
   replace hb:=hb.trans (hd.mono hb.size)
   replace HR2:=Lh (own_below HR2.out hd)
   clear hd hHeld HLN z0 z1
   go_wp2_with fail
   refine hK.out _ _ (HSF.out _ hb) (fun hHeld=>?_)
   clear hK K
   generalize mkB x.lineL=ln at *
   generalize (⟨#[114,97,99,107,32,48,32]⟩:ByteArray)++r0=tx0 at *
   generalize (⟨#[114,97,99,107,32,49,32]⟩:ByteArray)++r1=tx1 at *
   refine wpAnyH_ready (rs:=[17]) (by kernel_rfl) (by simp) ?_
   refine AllReadyH.cons (o:=_) rfl (fun K hK=>?_) AllReadyH.nil
   have hx:Below wa.heap.size wa (wa.alloc (.cells #[.string tx0,.string tx1,.string ln] 9)):=(Below.refl _ _).alloc (Nat.le_refl _) _
   have KN:=Lh (new_three wa tx0 tx1 ln 9)
   have hz2:=hb.size
   replace HR2:=Lh (own_below HR2.out hx)
   replace hb:=hb.trans (hx.mono hb.size)
   go_simp
   refine hK.out _ _ (HSF.out _ hb) (fun hHeld2=>?_)
   clear hK K hHeld hx
   refine wpAnyH_ready (rs:=[18]) (by kernel_rfl) (by simp) ?_
   refine AllReadyH.cons (o:=_) rfl (fun K hK=>?_) AllReadyH.nil
   refine step_append_lies _ rfl (.tmp 23) (.tmp 40) 25 rfl w.heap.size 9 i0 _ 1 16 Tryz.underlying25 hi0 hi1 hi2 hi3 rfl (by decide) _ k (rows.flatMap Tx.enc) (by rfl) HR2.out ⟨wa.heap.size,0,none⟩ 3 3 ([tx0,tx1,ln].flatMap Tx.enc) (by rfl) rfl KN.out (three_one _ _ _) (by decide) ?c1 ?c2 ?c3 _ rfl ?_
   case c1=>unfold maxLen;omega
   case c2=>omega
   case c3=>(first | omega | (simp only [World.size_alloc];omega))
   intro g7 cap7 w7 hown hgr hwh hlt7
   have hb7:=hb.grown hgr hb.size (fun q e=>(HR2.out.lt q e).1)
   have HR7:Hid (w7.ownsRow w.heap.size 9 1 (.slice (some ⟨g7,0,none⟩) (k+3) cap7) (k+3) (x.linesL.flatMap Tx.enc)):=Lh (by rw [HRS.out,List.flatMap_append];exact hown)
   clear hown hgr hwh hlt7 KN hz2 HR2 hb hHeld2 HRS
   go_simp
   refine hK.out _ _ (HSF.out _ hb7) (fun hHeld=>?_)
   clear hK K
   refine slotA 19 2 (.slice (some ⟨g7,0,none⟩) (k+3) cap7) ?_
   simp only [S3]
   refine wpAnyH_done (by kernel_rfl) ?_ _
   clear hHeld HSF
   go_wp2
   go_ret
   exact ⟨g7,cap7,rfl,HR7.out,hb7⟩
/-- the lines of a game, and a code -/
def LinesPost (r:List ByteArray × Int) (w:World) (e:Ending) (w':World):Prop :=
 ∃ q:Rwa,e=.returned (.tuple #[.slice q.a r.1.length q.c,.int .i64 r.2])∧TZ w' w.heap.size q.a q.c r.1∧Below w.heap.size w w'
theorem lines_none {r:List ByteArray × Int} {w w':World} {c:Int} {e:Ending} (h:r=([],c)) (he:e=.returned (.tuple #[.slice none 0 0,.int .i64 c])) (hb:Below w.heap.size w w'):LinesPost r w e w':=by
 subst h
 exact ⟨⟨none,0⟩,he,.inl rfl,hb⟩
theorem lines_some {r:List ByteArray × Int} {w w':World} {xs:List ByteArray} {g cap base:Nat} {e:Ending} (h:r=(xs,0)) (he:e=.returned (.tuple #[.slice (some ⟨g,0,none⟩) xs.length cap,.int .i64 0])) (ho:w'.ownsRow base 9 1 (.slice (some ⟨g,0,none⟩) xs.length cap) xs.length (xs.flatMap Tx.enc)) (hbs:w.heap.size≤base) (hb:Below w.heap.size w w'):LinesPost r w e w':=by
 subst h
 exact ⟨⟨some ⟨g,0,none⟩,cap⟩,he,.inr (own_mono ho hbs),hb⟩
theorem specLines_any (x:Gam) (p:GaA) (w:World) (ha:x.At p w) (hf:x.fit) :
  Calls Tryz.prog 18 #[.agg (gcells x p).toArray] w (LinesPost x.lines w):=by
 have HG:=Lh (GAt.new w x p 48 ha)
 have hb:Below w.heap.size w (w.alloc (.cells (gcells x p).toArray 48)):=(Below.refl _ _).alloc (Nat.le_refl _) _
 have HOK:Hid (∀ W,GAt W w.heap.size x p→Calls Tryz.prog 55 #[.pointer (some ⟨w.heap.size,0,none⟩)] W fun e w'=>e=.returned (.bool x.ok)∧Below W.heap.size W w'):=Lh (fun W h=>l18Ok_any x p w.heap.size W h hf)
 have HLN:Hid (x.ok=true→∀ W,GAt W w.heap.size x p→Calls Tryz.prog 59 #[.pointer (some ⟨w.heap.size,0,none⟩)] W (TextsPost W x.linesL)):=Lh (fun hk W h=>l27Lines_any x p w.heap.size W h hk)
 clear ha hf
 obtain ⟨cs,hcs⟩:∃ cs,cs=gcells x p:=⟨_,rfl⟩
 rw [← hcs]
 rw [← hcs] at HG hb
 clear hcs
 go_enter Tryz.func18,Tryz.ntmps18
 go_wp2_with fail
 refine (HOK.out _ HG.out).mono ?_
 rintro e w2 ⟨rfl,hd⟩
 replace hb:=hb.trans (hd.mono hb.size)
 replace HG:=Lh (HG.out.kept hd)
 clear hd
 clear HOK
 cases hk:x.ok with
 | false =>
  have HW:=Lh (Gam.lines0 hk)
  clear hk HLN HG
  go_wp2
  go_ret2
  exact lines_none HW.out rfl hb
 | true =>
  have HW:=Lh (Gam.lines1 hk)
  have HLN:=Lh (HLN.out hk)
  clear hk
  generalize x.linesL=xs at *
  go_wp2_with fail
  refine (HLN.out _ HG.out).mono ?_
  rintro e w3 ⟨g,cap,rfl,ho,hd⟩
  have HO:=Lh ho
  have hbs:=hb.size
  replace hb:=hb.trans (hd.mono hb.size)
  clear hd HLN HG ho
  go_wp2
  go_ret2
  exact lines_some HW.out rfl HO.out hbs hb
theorem specGameLines_any (x:Gam) (p:GaA) (w:World) (ha:x.At p w) (hf:x.fit) (_hsm:x.small) :
  Calls Tryz.prog 18 #[.agg (gcells x p).toArray] w fun e w'=>∃ q:Rwa,e=.returned (.tuple #[.slice q.a x.lines.1.length q.c,.int .i64 x.lines.2])∧SliceAt w' 1 Tx.enc q.a x.lines.1∧Below w.heap.size w w' :=
 (specLines_any x p w ha hf).mono (by
  rintro e w' ⟨q,h1,h2,h3⟩
  exact ⟨q,h1,h2.at,h3⟩)
end Go.Proofs.YtkjhapbjdjcipaaGreatDoor
set_option maxRecDepth 100000
set_option maxHeartbeats 8000000
namespace Go.Proofs.YtkjhapbjdjcipaaGreatDoor
open Go.ChangeShapes Go.WideShapes Go.ChangeAt Go.RowKit Go.Sort

theorem implLines_any (x:Gam) (p:GaA) (w:World) (ha:x.At p w) (hf:x.fit) (htz:x.setup.tiles.letters.size≤1048576) (hwz:x.last.play.word.size≤1048576) (hE:CEnv w) (hL:EnvL w) (ht:Tab w) :
  Calls Tryz.prog 19 #[.agg (gcells x p).toArray] w (LinesPost x.lines w):=by
 obtain ⟨i0,hi0,hi1,hi2,hi3⟩:=info_parts infoTx
 have hb:Below w.heap.size w (w.alloc (.cells (gcells x p).toArray 48)):=(Below.refl _ _).alloc (Nat.le_refl _) _
 have VI:=Lh (VarAt.new w 48 (gcells x p))
 have HA:=Lh (Gam.At.kept ha hb)
 have HE:=Lh (hE.kept hb)
 have HL:=Lh (hL.kept hb)
 have HT:=Lh (ht.kept hb)
 have HSZ:=Lh (size_game x p)
 have HVG:Hid (∀ W,x.At p W→CEnv W→EnvL W→Calls Tryz.prog 57 #[.agg (gcells x p).toArray] W fun e w'=>e=.returned (.bool x.ok)∧Below W.heap.size W w'):=Lh (fun W h h2 h3=>implValidGame_any x p W h hf htz hwz h2 h3)
 have HSL:Hid (x.ok=true→∀ W,x.At p W→Tab W→Calls Tryz.prog 58 #[.agg (gcells x p).toArray] W (StrPost W x.lineL)):=Lh (fun hk W h h2=>scoreLine_any x p W h hk h2)
 clear ha hf htz hwz hE hL ht
 obtain ⟨gc,hgc⟩:∃ gc,gc=gcells x p:=⟨_,rfl⟩
 have HGC:Hid (gc=gcells x p):=Lh hgc
 rw [← hgc]
 rw [← hgc] at VI hb HA HE HL HT HSZ HVG HSL
 clear hgc
 unfold StrPost at HSL
 go_enter Tryz.func19,Tryz.ntmps19
 go_upto_region 1 with fail
 generalize w.alloc (.cells gc.toArray 48)=w1 at *
 have RG:=VI.out.range
 refine wp_region_list ?_
 refine wpList_load_mid rfl 48 _ rfl w.heap.size 0 rfl gc _ RG Tryz.underlying48 rfl HSZ.out ?_
 clear RG
 go_wp2_with fail
 refine (HVG.out _ HA.out HE.out HL.out).mono ?_
 rintro e w2 ⟨rfl,hd⟩
 replace HA:=Lh (Gam.At.kept HA.out hd)
 replace hb:=hb.trans (hd.mono hb.size)
 replace VI:=Lh (VI.out.kept hd)
 replace HT:=Lh (HT.out.kept hd)
 clear hd
 clear HVG HE HL
 cases hk:x.ok with
 | false =>
  have HW:=Lh (Gam.lines0 hk)
  clear hk HSL HA HT VI HSZ HGC
  go_wp2
  go_ret2
  exact lines_none HW.out rfl hb
 | true =>
  have HW:=Lh (Gam.lines1 hk)
  have HSL:=Lh (HSL.out hk)
  have hf:=Gam.fine hk
  obtain ⟨n,hn⟩:=Brd.good hf.board
  have hn15:=hn.hi
  have hsz:=hn.size
  have hr0:(x.rack 0).size≤7:=by have:=(rack_pile (hf.rack 0 (by decide))).2;simpa using this
  have hr1:(x.rack 1).size≤7:=by have:=(rack_pile (hf.rack 1 (by decide))).2;simpa using this
  have hrl:=hf.racks
  have HRW:Hid (∀ W,Calls Tryz.prog 60 #[.agg #[.int .i64 x.board.size,.string x.board.premium,.string x.board.cells],.string x.board.cells] W (TextsPost W (rowsB x.board.cells n))):=Lh (fun W=>rows_any x.board n x.board.cells W hsz hn15 hn.cells)
  have HRS:Hid (x.linesL=rowsB x.board.cells n++[⟨#[114,97,99,107,32,48,32]⟩++x.rack 0,⟨#[114,97,99,107,32,49,32]⟩++x.rack 1,mkB x.lineL]):=Lh (by unfold Gam.linesL;rw [hsz,Int.toNat_natCast])
  have HLL:Hid (x.linesL.length=n+3):=Lh (by rw [Gam.linesL_len,hsz,Int.toNat_natCast])
  have HRL:=Lh (rowsB_len x.board.cells n)
  clear hk hf hn hsz
  generalize rowsB x.board.cells n=rows at *
  have c10:=VI.out.cell (i:=10) (v:=.int .i64 x.board.size) (by rw [HGC.out];rfl)
  have c11:=VI.out.cell (i:=11) (v:=.string x.board.premium) (by rw [HGC.out];rfl)
  have c12:=VI.out.cell (i:=12) (v:=.string x.board.cells) (by rw [HGC.out];rfl)
  go_wp2_with fail
  refine (HRW.out _).mono ?_
  rintro e w3 ⟨g1,cap,rfl,ho,hd⟩
  rw [HRL.out] at ho
  rw [HRL.out]
  have hbs:=hb.size
  clear c10 c11 c12 HRW
  go_upto_region 4 with fail
  have hd2:=hd.trans ((Below.refl w2.heap.size w3).drew)
  have HR2:Hid (w3.drew.ownsRow w2.heap.size 9 1 (.slice (some ⟨g1,0,none⟩) n cap) n (rows.flatMap Tx.enc)):=Lh (own_below ho (Below.refl w3.heap.size w3).drew)
  clear ho hd HRL
  obtain ⟨rb,ro,hra,hrc⟩:=(HA.out.2.1).open (show 0 < x.racks.length by omega)
  have t0:w2.cell? ⟨rb,ro+0,none⟩=some (.string (x.rack 0)):=words_cell hrc (show 0 < x.racks.length by omega)
  have t1:w2.cell? ⟨rb,ro+1,none⟩=some (.string (x.rack 1)):=words_cell hrc (show 1 < x.racks.length by omega)
  rw [Nat.add_zero] at t0
  have c14:=VI.out.cell (i:=14) (v:=.slice p.racks.a x.racks.length p.racks.c) (by rw [HGC.out];rfl)
  rw [hra,hrl] at c14
  have HSF:Hid (∀ W,Below w2.heap.size w2 W→W.cell? ⟨w.heap.size,14,none⟩=some (.slice (some ⟨rb,ro,none⟩) 2 p.racks.c)∧W.cell? ⟨rb,ro,none⟩=some (.string (x.rack 0))∧W.cell? ⟨rb,ro+1,none⟩=some (.string (x.rack 1))∧W.rangeAt w.heap.size 0 gc):=Lh (fun W h=>⟨cell_kept c14 h,cell_kept t0 h,cell_kept t1 h,(VI.out.kept h).range⟩)
  clear c14 t0 t1 hra hrc HGC
  generalize x.rack 0=r0 at *
  generalize x.rack 1=r1 at *
  have z0:7+r0.size≤9223372036854775807:=by omega
  have z1:7+r1.size≤9223372036854775807:=by omega
  refine wp_region_held_drew (S:=fun W=>W.cell? ⟨w.heap.size,14,none⟩=some (.slice (some ⟨rb,ro,none⟩) 2 p.racks.c)∧W.cell? ⟨rb,ro,none⟩=some (.string r0)∧W.cell? ⟨rb,ro+1,none⟩=some (.string r1)∧W.rangeAt w.heap.size 0 gc) (by kernel_rfl) (HSF.out _ hd2) (fun hHeld=>?_)
  generalize w3.drew=wd at *
  refine slotA 0 14 (.slice (some ⟨g1,0,none⟩) n cap) ?_
  simp only [S3]
  refine slotA 1 15 (.pointer (some ⟨w.heap.size,14,none⟩)) ?_
  simp only [S3]
  refine slotA 2 16 (.slice (some ⟨rb,ro,none⟩) 2 p.racks.c) ?_ (hy:=Or.inl ⟨by rfl,fun w' hS=>by have c9:=hS.1;go_simp⟩)
  simp only [S3]
  refine slotA 3 17 (.pointer (some ⟨rb,ro,none⟩)) ?_
  simp only [S3]
  refine slotA 4 18 (.string r0) ?_ (hy:=Or.inl ⟨by rfl,fun w' hS=>by have c9:=hS.2.1;go_simp⟩)
  simp only [S3]
  refine slotA 5 19 (.string (⟨#[114,97,99,107,32,48,32]⟩++r0)) ?_
  simp only [S3]
  refine slotA 6 20 (.pointer (some ⟨w.heap.size,14,none⟩)) ?_
  simp only [S3]
  refine slotA 7 21 (.slice (some ⟨rb,ro,none⟩) 2 p.racks.c) ?_ (hy:=Or.inl ⟨by rfl,fun w' hS=>by have c9:=hS.1;go_simp⟩)
  simp only [S3]
  refine slotA 8 22 (.pointer (some ⟨rb,ro+1,none⟩)) ?_
  simp only [S3]
  refine slotA 9 23 (.string r1) ?_ (hy:=Or.inl ⟨by rfl,fun w' hS=>by have c9:=hS.2.2.1;go_simp⟩)
  simp only [S3]
  refine slotA 10 24 (.string (⟨#[114,97,99,107,32,49,32]⟩++r1)) ?_
  simp only [S3]
  refine slotA 11 25 (.agg gc.toArray) ?_ (hy:=yieldsIf_load_mid (by rfl) 48 _ rfl w.heap.size 0 rfl gc _ (fun _ h=>h.2.2.2) Tryz.underlying48 rfl HSZ.out)
  simp only [S3]
  refine wpAnyH_ready (rs:=[12]) (by kernel_rfl) (by simp) ?_
  refine AllReadyH.cons (o:=_) rfl (fun K hK=>?_) AllReadyH.nil
  go_simp
  refine (HSL.out _ (Gam.At.kept HA.out hd2) (HT.out.kept hd2)).mono ?_
  rintro e wa ⟨rfl,hd⟩
  replace hd2:=hd2.trans (hd.mono hd2.size)
  replace HR2:=Lh (own_below HR2.out hd)
  clear hd hHeld HSL z0 z1
  go_wp2_with fail
  refine hK.out _ _ (HSF.out _ hd2) (fun hHeld=>?_)
  clear hK K
  generalize mkB x.lineL=ln at *
  generalize (⟨#[114,97,99,107,32,48,32]⟩:ByteArray)++r0=tx0 at *
  generalize (⟨#[114,97,99,107,32,49,32]⟩:ByteArray)++r1=tx1 at *
  refine wpAnyH_ready (rs:=[13]) (by kernel_rfl) (by simp) ?_
  refine AllReadyH.cons (o:=_) rfl (fun K hK=>?_) AllReadyH.nil
  have hx:Below wa.heap.size wa (wa.alloc (.cells #[.string tx0,.string tx1,.string ln] 9)):=(Below.refl _ _).alloc (Nat.le_refl _) _
  have KN:=Lh (new_three wa tx0 tx1 ln 9)
  have hz2:=hd2.size
  replace HR2:=Lh (own_below HR2.out hx)
  replace hd2:=hd2.trans (hx.mono hd2.size)
  go_simp
  refine hK.out _ _ (HSF.out _ hd2) (fun hHeld2=>?_)
  clear hK K hHeld hx
  refine wpAnyH_ready (rs:=[14]) (by kernel_rfl) (by simp) ?_
  refine AllReadyH.cons (o:=_) rfl (fun K hK=>?_) AllReadyH.nil
  refine step_append_lies _ rfl (.tmp 14) (.tmp 27) 25 rfl w2.heap.size 9 i0 _ 1 16 Tryz.underlying25 hi0 hi1 hi2 hi3 rfl (by decide) _ n (rows.flatMap Tx.enc) (by rfl) HR2.out ⟨wa.heap.size,0,none⟩ 3 3 ([tx0,tx1,ln].flatMap Tx.enc) (by rfl) rfl KN.out (three_one _ _ _) (by decide) ?c1 ?c2 ?c3 _ rfl ?_
  case c1=>unfold maxLen;omega
  case c2=>omega
  case c3=>(first | omega | (simp only [World.size_alloc];omega))
  intro g7 cap7 w7 hown hgr hwh hlt7
  have hb7:=hd2.grown hgr hd2.size (fun q e=>(HR2.out.lt q e).1)
  have HR7:Hid (w7.ownsRow w2.heap.size 9 1 (.slice (some ⟨g7,0,none⟩) (n+3) cap7) (n+3) (x.linesL.flatMap Tx.enc)):=Lh (by rw [HRS.out,List.flatMap_append];exact hown)
  clear hown hgr hwh hlt7 KN hz2 HR2 hd2 hHeld2 HRS
  go_simp
  refine hK.out _ _ (HSF.out _ hb7) (fun hHeld=>?_)
  clear hK K
  refine slotA 15 2 (.slice (some ⟨g7,0,none⟩) (n+3) cap7) ?_
  simp only [S3]
  refine slotA 16 3 (.int .i64 0) ?_
  simp only [S3]
  refine wpAnyH_done (by kernel_rfl) ?_ _
  clear hHeld HSF
  replace hb:=hb.trans (hb7.mono hbs)
  clear hb7 VI HA HT HSZ
  rw [← HLL.out] at HR7
  go_wp2
  go_ret2
  exact lines_some HW.out (by rw [HLL.out];rfl) HR7.out hbs hb
theorem implGameLines_any (x:Gam) (p:GaA) (w:World) (ha:x.At p w) (hf:x.fit) (_hsm:x.small) (htz:x.setup.tiles.letters.size≤1048576) (hwz:x.last.play.word.size≤1048576) (hE:CEnv w) (hL:EnvL w) (ht:Tab w) :
  Calls Tryz.prog 19 #[.agg (gcells x p).toArray] w fun e w'=>∃ q:Rwa,e=.returned (.tuple #[.slice q.a x.lines.1.length q.c,.int .i64 x.lines.2])∧TZ w' w.heap.size q.a q.c x.lines.1∧True∧Below w.heap.size w w' :=
 (implLines_any x p w ha hf htz hwz hE hL ht).mono (by
  rintro e w' ⟨q,h1,h2,h3⟩
  exact ⟨q,h1,h2,trivial,h3⟩)
end Go.Proofs.YtkjhapbjdjcipaaGreatDoor
