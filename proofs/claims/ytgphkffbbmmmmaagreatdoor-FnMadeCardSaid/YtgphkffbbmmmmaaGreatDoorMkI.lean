/- Contract: the program writes a tile set's text. Leans on Go's table of powers of ten. · Contract: the program reads a tile set's text. Leans on Go's tables and on strconv's two e · Contract: the program's standard tile sets. Leans on Go's tables and on strconv's two erro -/
import Derived.Test.YtgphkffbbmmmmaaGreatDoorMkE
import Derived.Test.YtgphkffbbmmmmaaGreatDoorDoD
import Derived.Test.YtgphkffbbmmmmaaGreatDoorMkX
import Derived.Test.YtgphkffbbmmmmaaGreatDoorMkQ
import Derived.StillTail
import Derived.StillTactics
import Derived.Maps.OwnSet
set_option maxRecDepth 100000
set_option maxHeartbeats 8000000
namespace Go.Proofs.YtgphkffbbmmmmaaGreatDoor
open Go.ChangeShapes Go.WideShapes Go.ChangeAt Go.RowKit Go.Sort

theorem mk_row {w:World} {base g c n:Nat} {xs:List ByteArray} (h:w.ownsRow base 9 1 (.slice (some ⟨g,0,none⟩) n c) n (xs.flatMap Tx.enc)) (hn:n=xs.length):(∀ (j:Nat) x,xs[j]?=some x→w.cell? ⟨g,0+j,none⟩=some (.string x))∧n≤c∧g < w.heap.size:=by
 subst hn
 refine ⟨fun j x hj=>?_,?_,(h.lt g rfl).2⟩
 ·have hl:j < xs.length:=by
   rcases Nat.lt_or_ge j xs.length with h1 | h1
   ·exact h1
   ·rw [List.getElem?_eq_none h1] at hj;cases hj
  have:=own_cells (enc:=Tx.enc) (fun _=>rfl) h rfl (i:=j) hl (j:=0) (v:=.string xs[j]) rfl
  rw [List.getElem?_eq_getElem hl] at hj
  cases hj
  simpa using this
 ·rcases h.2 with ⟨e,h0⟩ | ⟨g2,c2,cur,e,_,_,hc,_⟩
  ·cases e
  ·simp only [Value.slice.injEq] at e
   rw [e.2.2]
   exact hc
/-- the letters' words -/
def wsL (t:Tls):List ByteArray:=(List.range t.counts.length).map (fun i=>mkB (tileW t i))
theorem wsL_len (t:Tls):(wsL t).length=t.counts.length:=by simp [wsL]
theorem wsL_next {t:Tls} {k:Nat} (h:k < t.counts.length):(wsL t).take (k+1)=(wsL t).take k++[mkB (tileW t k)]:=by
 have hl:k < (wsL t).length:=by rw [wsL_len];exact h
 rw [List.take_succ_eq_append_getElem hl]
 simp only [wsL,List.getElem_map,List.getElem_range]
theorem wsL_all (t:Tls):(wsL t).take t.counts.length=wsL t:=List.take_of_length_le (by rw [wsL_len];exact Nat.le_refl _)
theorem tilesW_pos {t:Tls} (h:0 < t.blanks):tilesW t=wsL t++[mkB (63 :: 120 :: Lib.itoa t.blanks)]:=by unfold tilesW wsL;rw [if_pos h]
theorem tilesW_zero {t:Tls} (h:¬ 0 < t.blanks):tilesW t=wsL t:=by unfold tilesW wsL;rw [if_neg h,List.append_nil]
theorem blank_text (n:Int):(⟨#[63,120]⟩:ByteArray)++mkB (Lib.itoa n)=mkB (63 :: 120 :: Lib.itoa n):=by
 rw [cat_mk,mkB_data]
 rfl
theorem TilesText_any (t:Tls) (q:TlA) (s:ByteArray) (w:World) (ha:t.At q w) (ht:t.Text s) (he:Tab w) :
  Calls Tryz.prog 106 #[.agg #[.string t.letters,.slice q.values.a t.values.length q.values.c,.slice q.counts.a t.counts.length q.counts.c,.int .i64 t.blanks]] w fun e w'=>e=.returned (.string s)∧Below w.heap.size w w':=by
 obtain ⟨i0,hi0,hi1,hi2,hi3⟩:=info_parts infoTx
 have hb0:Below w.heap.size w (w.alloc (.cells #[.string t.letters,.slice q.values.a t.values.length q.values.c,.slice q.counts.a t.counts.length q.counts.c,.int .i64 t.blanks] 24)):=(Below.refl _ _).alloc (Nat.le_refl _) _
 have HT:=Lh (TAt.new w t q 24 ha)
 have HG:=Lh (Tls.good ht.ok)
 have h26:=HG.out.hi
 have HVL:=Lh HG.out.values
 have HCL:=Lh HG.out.counts
 have HTX:=Lh ht
 have HTB:=Lh (he.kept hb0)
 have HOK:Hid (∀ W,t.At q W→Calls Tryz.prog 68 #[.agg #[.string t.letters,.slice q.values.a t.values.length q.values.c,.slice q.counts.a t.counts.length q.counts.c,.int .i64 t.blanks]] W fun e w'=>e=.returned (.bool true)∧Below W.heap.size W w'):=Lh (fun W h=>by have:=ValidTiles_any t q W h ⟨by omega,by rw [HVL.out];omega,by rw [HCL.out];omega⟩ (by omega);rwa [ht.ok] at this)
 have HJN:Hid (∀ (g n cap base:Nat) (xs:List ByteArray) (W:World),n=xs.length→n≤1048576→W.ownsRow base 9 1 (.slice (some ⟨g,0,none⟩) n cap) n (xs.flatMap Tx.enc)→(Lib.join (xs.map (·.data.toList)) [32]).length≤140737488355328→Calls Tryz.prog 129 #[.slice (some ⟨g,0,none⟩) n cap,.string ⟨#[32]⟩] W fun e w'=>e=.returned (.string (mkB (Lib.join (xs.map (·.data.toList)) [32])))∧Below W.heap.size W w'):=Lh (fun g n cap base xs W hn hl ho hj=>by
  obtain ⟨r1,r2,r3⟩:=mk_row ho hn
  subst hn
  exact Tryz.strings_Join g 0 cap xs ⟨#[32]⟩ W r1 r3 (by omega) r2 hj)
 have HNX:=Lh (fun k h=>wsL_next (t:=t) (k:=k) h)
 have HWL:=Lh (wsL_len t)
 have HWA:=Lh (wsL_all t)
 have HPZ:=Lh (fun h=>tilesW_pos (t:=t) h)
 have HZZ:=Lh (fun h=>tilesW_zero (t:=t) h)
 have HJE:Hid (mkB (Lib.join ((tilesW t).map (·.data.toList)) [32])=s):=Lh (by rw [ht.join,mkB_of])
 have HJL:Hid ((Lib.join ((tilesW t).map (·.data.toList)) [32]).length≤1000):=Lh (by rw [ht.join];have h1:=ht.len;have h2:s.data.toList.length=s.size:=Array.length_toList;omega)
 clear ha ht he
 generalize wsL t=ws at *
 have hn1:0 < t.counts.length:=by rw [HCL.out];exact HG.out.lo
 have hn2:0 < t.values.length:=by rw [HVL.out];exact HG.out.lo
 obtain ⟨b2,o2,ha2,_⟩:=num_cell HT.out.2.2 hn1
 obtain ⟨b1,o1,ha1,_⟩:=num_cell HT.out.2.1 hn2
 have HA1:=Lh ha1
 have HA2:=Lh ha2
 clear ha1 ha2
 go_enter Tryz.func106,Tryz.ntmps106
 go_upto_region 1 with fail
 generalize w.alloc (.cells #[.string t.letters,.slice q.values.a t.values.length q.values.c,.slice q.counts.a t.counts.length q.counts.c,.int .i64 t.blanks] 24)=w1 at *
 have c0:=HT.out.1.1
 have c1:=HT.out.1.2.1
 have c2:=HT.out.1.2.2.1
 have c3:=HT.out.1.2.2.2
 go_wp2_with fail
 refine (HOK.out _ HT.out.2).mono ?_
 rintro e w2 ⟨rfl,hd⟩
 replace HT:=Lh (HT.out.kept hd)
 replace HTB:=Lh (HTB.out.kept hd)
 replace hb0:=hb0.trans (hd.mono hb0.size)
 clear hd HOK c0 c1 c2 c3
 have c0:=HT.out.1.1
 have c1:=HT.out.1.2.1
 have c2:=HT.out.1.2.2.1
 have c3:=HT.out.1.2.2.2
 have hb:Below w2.heap.size w2 (w2.alloc (.cells #[] 9)):=(Below.refl _ _).alloc (Nat.le_refl _) _
 have HR:=Lh (World.ownsRow_made (base:=w2.heap.size) (e:=9) (size:=1) w2 #[] 0 (by simp) (by unfold maxLen;omega) rfl)
 have d2:=cell_kept c2 hb
 go_upto_region 5 with fail
 clear d2
 generalize w2.alloc (.cells #[] 9)=w3 at *
 rw [HA2.out]
 rw [HA1.out] at c1
 go_loopw [3,13] (fun ov iv wr=>∃ (i g1 cap:Nat),i≤t.counts.length∧iv=.int .i64 i∧ov=.slice (some ⟨g1,0,none⟩) i cap∧Hid (wr.ownsRow w2.heap.size 9 1 (.slice (some ⟨g1,0,none⟩) i cap) i ((ws.take i).flatMap Tx.enc))∧Below w2.heap.size w2 wr) (fun _ iv _=>t.counts.length - (intOf iv).toNat)
 case atStart=>exact ⟨0,_,0,Nat.zero_le _,rfl,rfl,HR,hb⟩
 case round =>
  clear HR hb
  obtain ⟨i,g1,cap,hi,rfl,rfl,HR,hb⟩:=hrel
  by_cases hlt:i < t.counts.length
  ·have hli:i < t.letters.size:=by rw [← HCL.out];exact hlt
   obtain ⟨⟨v0,v1⟩,⟨n0,n1⟩,hiv,hic⟩:=tile_nums HTX.out.ok hli
   obtain ⟨b3,o3,hb3,t1⟩:=num_cell HT.out.2.1 hiv
   rw [HA1.out] at hb3
   cases hb3
   obtain ⟨b4,o4,hb4,t2⟩:=num_cell HT.out.2.2 hic
   rw [HA2.out] at hb4
   cases hb4
   have HP:=Lh (letter_one hli)
   have HL:=Lh (tile_text t i)
   have HN1:=Lh (HNX.out i hlt)
   have hpc:(mkB [t.letters.data.toList.getD i 0]).size=1:=rfl
   have HSF:Hid (∀ W,Below w2.heap.size w2 W→W.cell? ⟨w.heap.size,0,none⟩=some (.string t.letters)∧W.cell? ⟨w.heap.size,1,none⟩=some (.slice (some ⟨b1,o1,none⟩) t.values.length q.values.c)∧W.cell? ⟨b1,o1+i,none⟩=some (.int .i64 (t.values.getD i 0))):=Lh (fun W h=>⟨cell_kept c0 h,cell_kept c1 h,cell_kept t1 h⟩)
   have t3:=cell_kept t2 hb
   generalize t.values.getD i 0=va at *
   generalize t.counts.getD i 0=ca at *
   have z1:(mkB (Lib.itoa va)).size≤21:=by rw [mkB_size];exact Lib.itoa_length_le _ (by omega) (by omega)
   have z2:(mkB (Lib.itoa ca)).size≤21:=by rw [mkB_size];exact Lib.itoa_length_le _ (by omega) (by omega)
   have D0:Hid (∀ W,Tab W→Calls Tryz.prog 88 #[.int .i64 va] W fun e w'=>e=.returned (.string (mkB (Lib.itoa va)))∧Below W.heap.size W w'):=Lh (fun W h=>Decimal_any va (by omega) (by omega) W h)
   have D1:Hid (∀ W,Tab W→Calls Tryz.prog 88 #[.int .i64 ca] W fun e w'=>e=.returned (.string (mkB (Lib.itoa ca)))∧Below W.heap.size W w'):=Lh (fun W h=>Decimal_any ca (by omega) (by omega) W h)
   clear v0 v1 n0 n1 t1 t2
   generalize mkB [t.letters.data.toList.getD i 0]=pc at *
   generalize mkB (Lib.itoa va)=dv at *
   generalize mkB (Lib.itoa ca)=cv at *
   generalize mkB (tileW t i)=tw at *
   have y1:1+dv.size≤9223372036854775807:=by omega
   have y2:1+dv.size+1≤9223372036854775807:=by omega
   have y3:1+dv.size+1+cv.size≤9223372036854775807:=by omega
   have hiv2:(i:Int) < (t.values.length:Int):=by omega
   have hli2:(i:Int)+1≤(t.letters.size:Int):=by omega
   have hz0:(0:Int)≤(i:Int)+1:=by omega
   have hz1:(i:Int)≤(i:Int)+1:=by omega
   have wr1:IntKind.i64.wrap ((i:Int)+1)=(i:Int)+1:=IntWalk.i64_in _ (by omega)
   go_upto_region 7 with fail
   clear t3
   have hd:Below wr.heap.size wr wr.drew:=(Below.refl _ _).drew
   replace hb:=hb.trans (hd.mono hb.size)
   replace HR:=Lh (own_below HR.out hd)
   clear hd
   refine wp_region_held_drew (S:=fun W=>W.cell? ⟨w.heap.size,0,none⟩=some (.string t.letters)∧W.cell? ⟨w.heap.size,1,none⟩=some (.slice (some ⟨b1,o1,none⟩) t.values.length q.values.c)∧W.cell? ⟨b1,o1+i,none⟩=some (.int .i64 va)) (by kernel_rfl) (HSF.out _ hb) (fun hHeld=>?_)
   generalize wr.drew=wd at *
   refine slotA 0 18 (.slice (some ⟨g1,0,none⟩) i cap) ?_
   simp only [S3]
   refine slotA 1 19 (.pointer (some ⟨w.heap.size,0,none⟩)) ?_
   simp only [S3]
   refine slotA 2 20 (.string t.letters) ?_ (hy:=Or.inl ⟨by rfl,fun w' hS=>by have c9:=hS.1;go_simp⟩)
   simp only [S3]
   refine slotA 3 21 (.int .i64 i) ?_
   simp only [S3]
   refine slotA 4 22 (.int .i64 i) ?_
   simp only [S3]
   refine slotA 5 23 (.int .i64 ((i:Int)+1)) ?_
   simp only [S3]
   refine slotA 6 24 (.string (t.letters.extract i (i+1))) ?_
   simp only [S3]
   rw [HP.out]
   refine slotA 7 25 (.pointer (some ⟨w.heap.size,1,none⟩)) ?_
   simp only [S3]
   refine slotA 8 26 (.slice (some ⟨b1,o1,none⟩) t.values.length q.values.c) ?_ (hy:=Or.inl ⟨by rfl,fun w' hS=>by have c9:=hS.2.1;go_simp⟩)
   simp only [S3]
   refine slotA 9 27 (.int .i64 i) ?_
   simp only [S3]
   refine slotA 10 28 (.pointer (some ⟨b1,o1+i,none⟩)) ?_
   simp only [S3]
   refine slotA 11 29 (.int .i64 va) ?_ (hy:=Or.inl ⟨by rfl,fun w' hS=>by have c9:=hS.2.2;go_simp⟩)
   simp only [S3]
   refine slotA 15 33 (.int .i64 ca) ?_
   simp only [S3]
   refine wpAnyH_ready (rs:=[12]) (by kernel_rfl) (by simp) ?_
   refine AllReadyH.cons (o:=_) rfl (fun K hK=>?_) AllReadyH.nil
   go_simp
   refine (D0.out _ (HTB.out.kept hb)).mono ?_
   rintro e wa ⟨rfl,hd⟩
   replace hb:=hb.trans (hd.mono hb.size)
   replace HR:=Lh (own_below HR.out hd)
   clear hd hHeld D0
   go_wp2_with fail
   refine hK.out _ _ (HSF.out _ hb) (fun hHeld=>?_)
   clear hK K
   refine slotA 13 31 (.string (pc++dv)) ?_
   simp only [S3]
   refine slotA 14 32 (.string (pc++dv++⟨#[120]⟩)) ?_
   simp only [S3]
   refine wpAnyH_ready (rs:=[16]) (by kernel_rfl) (by simp) ?_
   refine AllReadyH.cons (o:=_) rfl (fun K hK=>?_) AllReadyH.nil
   go_simp
   refine (D1.out _ (HTB.out.kept hb)).mono ?_
   rintro e wb ⟨rfl,hd⟩
   replace hb:=hb.trans (hd.mono hb.size)
   replace HR:=Lh (own_below HR.out hd)
   clear hd hHeld D1
   go_wp2_with fail
   refine hK.out _ _ (HSF.out _ hb) (fun hHeld=>?_)
   clear hK K
   refine slotA 17 35 (.string (pc++dv++⟨#[120]⟩++cv)) ?_
   simp only [S3]
   rw [HL.out]
   refine wpAnyH_ready (rs:=[18]) (by kernel_rfl) (by simp) ?_
   refine AllReadyH.cons (o:=_) rfl (fun K hK=>?_) AllReadyH.nil
   have hx:Below wb.heap.size wb (wb.alloc (.cells #[.string tw] 9)):=(Below.refl _ _).alloc (Nat.le_refl _) _
   have KN:=Lh (new_tx wb tw 9)
   have hz2:=hb.size
   replace HR:=Lh (own_below HR.out hx)
   replace hb:=hb.trans (hx.mono hb.size)
   go_simp
   refine hK.out _ _ (HSF.out _ hb) (fun hHeld2=>?_)
   clear hK K hHeld hx
   refine wpAnyH_ready (rs:=[19]) (by kernel_rfl) (by simp) ?_
   refine AllReadyH.cons (o:=_) rfl (fun K hK=>?_) AllReadyH.nil
   refine step_append_lies _ rfl (.tmp 18) (.tmp 36) 25 rfl w2.heap.size 9 i0 _ 1 16 Tryz.underlying25 hi0 hi1 hi2 hi3 rfl (by decide) _ i ((ws.take i).flatMap Tx.enc) (by rfl) HR.out ⟨wb.heap.size,0,none⟩ 1 1 (Tx.enc tw) (by rfl) rfl KN.out (tx_one _) (by decide) ?c1 ?c2 ?c3 _ rfl ?_
   case c1=>unfold maxLen;omega
   case c2=>omega
   case c3=>(first | omega | (simp only [World.size_alloc];omega))
   intro g7 cap7 w7 hown hgr hwh hlt7
   have hb7:=hb.grown hgr hb.size (fun q e=>(HR.out.lt q e).1)
   have HR7:Hid (w7.ownsRow w2.heap.size 9 1 (.slice (some ⟨g7,0,none⟩) (i+1) cap7) (i+1) ((ws.take (i+1)).flatMap Tx.enc)):=Lh (by rw [HN1.out,← flat_snoc];exact hown)
   clear hown hgr hwh hlt7 KN hz2 HR hb hHeld2 HN1
   go_simp
   refine hK.out _ _ (HSF.out _ hb7) (fun hHeld=>?_)
   clear hK K
   refine slotA 20 3 (.slice (some ⟨g7,0,none⟩) (i+1) cap7) ?_
   simp only [S3]
   refine wpAnyH_done (by kernel_rfl) ?_ _
   clear hHeld HSF
   go_wp2
   go_roundw
   case rel=>exact ⟨i+1,g7,cap7,by omega,by go_num,rfl,HR7,hb7⟩
   case measure=>simp [intOf];omega
  ·obtain rfl:i=t.counts.length:=by omega
   have hnl:t.counts.length≤26:=by rw [HCL.out];exact h26
   have hb4:=(Tls.counts_rng HTX.out.ok).1
   have HR2:=HR.out
   rw [HWA.out] at HR2
   replace HR:=Lh HR2
   clear HR2 HNX HWA
   have d3:=cell_kept c3 hb
   by_cases hbl:0 < t.blanks
   ·have HE:=Lh (HPZ.out hbl)
    have HBT:=Lh (blank_text t.blanks)
    have z1:(mkB (Lib.itoa t.blanks)).size≤21:=by rw [mkB_size];exact Lib.itoa_length_le _ (by omega) (by omega)
    have D0:Hid (∀ W,Tab W→Calls Tryz.prog 88 #[.int .i64 t.blanks] W fun e w'=>e=.returned (.string (mkB (Lib.itoa t.blanks)))∧Below W.heap.size W w'):=Lh (fun W h=>Decimal_any t.blanks (by omega) (by omega) W h)
    generalize hbw:mkB (63 :: 120 :: Lib.itoa t.blanks)=bw at *
    generalize mkB (Lib.itoa t.blanks)=dv at *
    clear hbw
    have y1:2+dv.size≤9223372036854775807:=by omega
    go_wp2_with fail
    refine (D0.out _ (HTB.out.kept hb)).mono ?_
    rintro e wa ⟨rfl,hd⟩
    replace hb:=hb.trans (hd.mono hb.size)
    replace HR:=Lh (own_below HR.out hd)
    clear hd D0 d3
    have hx:Below wa.heap.size wa (wa.alloc (.cells #[.string bw] 9)):=(Below.refl _ _).alloc (Nat.le_refl _) _
    have KN:=Lh (new_tx wa bw 9)
    have hz2:=hb.size
    replace HR:=Lh (own_below HR.out hx)
    replace hb:=hb.trans (hx.mono hb.size)
    have hbe:=HBT.out
    clear hx
    go_wp2_with (at_builtin;go_must (refine wpList_append_lies _ rfl (.tmp 42) (.tmp 47) 25 rfl w2.heap.size 9 i0 _ 1 16 Tryz.underlying25 hi0 hi1 hi2 hi3 rfl (by decide) _ t.counts.length (ws.flatMap Tx.enc) (by rfl) HR.out ⟨wa.heap.size,0,none⟩ 1 1 (Tx.enc bw) (by rfl) rfl KN.out (tx_one _) (by decide) ?c1 ?c2 ?c3 _ rfl ?_))
    case c1=>unfold maxLen;omega
    case c2=>omega
    case c3=>(first | omega | (simp only [World.size_alloc];omega))
    intro g7 cap7 w7 hown hgr hwh hlt7
    have hb7:=hb.grown hgr hb.size (fun q e=>(HR.out.lt q e).1)
    have HR7:Hid (w7.ownsRow w2.heap.size 9 1 (.slice (some ⟨g7,0,none⟩) (t.counts.length+1) cap7) (t.counts.length+1) ((tilesW t).flatMap Tx.enc)):=Lh (by rw [HE.out,← flat_snoc];exact hown)
    have HLN:Hid (t.counts.length+1=(tilesW t).length):=Lh (by rw [HE.out,List.length_append,HWL.out];rfl)
    clear hown hgr hwh hlt7 KN hz2 HR hb hbe HE HPZ HZZ
    go_wp2_with fail
    refine (HJN.out _ _ _ _ _ _ HLN.out (by omega) HR7.out (by have:=HJL.out;omega)).mono ?_
    rintro e wz ⟨rfl,hd⟩
    rw [HJE.out]
    have hbz:=hb0.trans ((hb7.trans (hd.mono hb7.size)).mono hb0.size)
    clear hd hb7 HR7 HJN
    go_wp2
    go_ret
    exact ⟨rfl,hbz⟩
   ·have HE:=Lh (HZZ.out (by omega))
    have HR7:Hid (wr.ownsRow w2.heap.size 9 1 (.slice (some ⟨g1,0,none⟩) t.counts.length cap) t.counts.length ((tilesW t).flatMap Tx.enc)):=Lh (by rw [HE.out];exact HR.out)
    have HLN:Hid (t.counts.length=(tilesW t).length):=Lh (by rw [HE.out,HWL.out])
    clear HR HE HPZ HZZ
    go_wp2_with fail
    refine (HJN.out _ _ _ _ _ _ HLN.out (by omega) HR7.out (by have:=HJL.out;omega)).mono ?_
    rintro e wz ⟨rfl,hd⟩
    rw [HJE.out]
    have hbz:=hb0.trans ((hb.trans (hd.mono hb.size)).mono hb0.size)
    clear hd hb HR7 HJN d3
    go_wp2
    go_ret
    exact ⟨rfl,hbz⟩
end Go.Proofs.YtgphkffbbmmmmaaGreatDoor
set_option maxRecDepth 100000
set_option maxHeartbeats 16000000
namespace Go.Proofs.YtgphkffbbmmmmaaGreatDoor
open Go.ChangeShapes Go.WideShapes Go.ChangeAt Go.RowKit Go.Sort

theorem Env.M {w:World} (h:Env w):EnvM w:=h.2.1
theorem cutX_any (s:ByteArray) (w:World) (he:Env w) (hs:s.size≤1048576):Calls Tryz.prog 104 #[.string s,.string ⟨#[120]⟩] w fun e w'=>(∃ b,e=.returned (.tuple #[.string (mkB (Lib.cut s.data.toList [120]).1),.string (mkB (Lib.cut s.data.toList [120]).2.1),.bool b]))∧Below w.heap.size w w':=by
 obtain ⟨_,⟨m,hm⟩,_,_⟩:=he
 refine (Any.strings_Cut { Tryz.laysM145 with } s ⟨#[120]⟩ m w (by omega) hm).mono ?_
 rintro e w' ⟨rfl,k,rfl⟩
 exact ⟨⟨(Lib.cut s.data.toList [120]).2.2,rfl⟩,Drew.below ⟨k,rfl⟩ _⟩
theorem ReadTiles_any (t:Tls) (s:ByteArray) (w:World) (ht:t.Text s) (he:Env w):Calls Tryz.prog 65 #[.string s] w (TlPost t (.bool true) w):=by
 obtain ⟨i0,hi0,hi1,hi2,hi3⟩:=info_parts infoI64
 have hb0:Below w.heap.size w (w.alloc (.cells #[.string ⟨#[]⟩,.slice none 0 0,.slice none 0 0,.int .i64 0] 24)):=(Below.refl _ _).alloc (Nat.le_refl _) _
 have V0:=Lh (VarAt.new w 24 [.string ⟨#[]⟩,.slice none 0 0,.slice none 0 0,.int .i64 0])
 have HENV:=Lh he
 obtain ⟨T,t0,tS,tN⟩:=stepsO_states ht.impl
 have hlen:=ht.len
 have HSP:=Lh (fun W (h:Env W)=>splitM_any s 32 W h.M (by omega))
 have hn:=ht.few
 have HTT:=Lh (fun q W (h:t.At q W) (h2:Env W)=>TilesText_any t q s W h ht h2.1)
 have HOK:=Lh ht.ok
 have HTS:=Lh tS
 have HT0:=Lh t0
 have HTN:=Lh tN
 have hq:(s.toList != s.toList)=false:=by simp
 clear t0 tS tN ht he
 generalize splitL 32 s.data.toList=P at *
 have HPL:Hid ((P.map mkB).length=P.length):=Lh (List.length_map ..)
 have HCL:Hid (∀ (W:World) (B G cap:Nat),W.ownsRow B 9 1 (.slice (some ⟨G,0,none⟩) P.length cap) P.length ((P.map mkB).flatMap Tx.enc)→∀ k,k < P.length→W.cell? ⟨G,k,none⟩=some (.string (mkB (P.getD k [])))):=Lh (fun W B G cap ho k hk=>by
  have h2:k < (P.map mkB).length:=by rw [List.length_map];exact hk
  have ho2:W.ownsRow B 9 1 (.slice (some ⟨G,0,none⟩) (P.map mkB).length cap) (P.map mkB).length ((P.map mkB).flatMap Tx.enc):=by rw [List.length_map];exact ho
  have:=own_cells (enc:=Tx.enc) (fun _=>rfl) ho2 rfl (i:=k) h2 (j:=0) (v:=.string (mkB P[k])) (by rw [List.getElem_map];rfl)
  rw [List.getD_eq_getElem?_getD,List.getElem?_eq_getElem hk]
  simpa using this)
 go_enter Tryz.func65,Tryz.ntmps65
 go_upto_region 1 with fail
 generalize w.alloc (.cells #[.string ⟨#[]⟩,.slice none 0 0,.slice none 0 0,.int .i64 0] 24)=w1 at *
 have hx:Below w1.heap.size w1 (w1.alloc (.cells #[.string ⟨#[]⟩,.slice none 0 0,.slice none 0 0,.int .i64 0] 24)):=(Below.refl _ _).alloc (Nat.le_refl _) _
 have HB:=Lh (TBox.new w1)
 have hlt0:=V0.out.lt
 replace V0:=Lh (V0.out.kept hx)
 replace hb0:=hb0.trans (hx.mono hb0.size)
 clear hx
 go_upto_region 2 with fail
 generalize w1.alloc (.cells #[.string ⟨#[]⟩,.slice none 0 0,.slice none 0 0,.int .i64 0] 24)=w2 at *
 generalize w1.heap.size=g at *
 go_wp2_with fail
 refine (HSP.out _ (HENV.out.kept hb0)).mono ?_
 rintro e w3 ⟨G,cap,rfl,ho,hd⟩
 have hG:=(ho.lt G rfl).1
 have hg2:=HB.out.lt
 rw [HPL.out] at ho
 rw [HPL.out]
 have HR:=Lh ho
 replace HB:=Lh (HB.out.kept hd)
 replace V0:=Lh (V0.out.kept hd)
 replace hb0:=hb0.trans (hd.mono hb0.size)
 clear hd ho HSP HPL
 have hgG:g < G:=by omega
 generalize w2.heap.size=B2 at *
 obtain ⟨n,hnn⟩:∃ n,n=P.length:=⟨_,rfl⟩
 rw [← hnn] at hn HR HCL HTS HTN
 rw [← hnn]
 clear hnn
 go_wp2_with fail
 go_loopw [18] (fun iv wr=>∃ (k:Nat) (q:TlA),k≤n∧iv=.int .i64 k∧Hid (TBox wr g (T k) q)∧Hid (VarAt wr w.heap.size 24 [.string ⟨#[]⟩,.slice none 0 0,.slice none 0 0,.int .i64 0])∧Hid (wr.ownsRow B2 9 1 (.slice (some ⟨G,0,none⟩) n cap) n ((P.map mkB).flatMap Tx.enc))∧Hid ((∀ k,q.values.a.map (·.block)=some k→G < k)∧∀ k,q.counts.a.map (·.block)=some k→G < k)∧Below w.heap.size w wr) (fun iv _=>n - (intOf iv).toNat)
 case atStart=>exact ⟨0,⟨⟨none,0⟩,⟨none,0⟩⟩,Nat.zero_le _,rfl,by rw [HT0.out];exact HB,V0,HR,Lh ⟨fun _ h=>(by cases h),fun _ h=>(by cases h)⟩,hb0⟩
 case round =>
  clear HB V0 HR hb0
  obtain ⟨k,q,hk,rfl,HB,V0,HR,HQ,hb0⟩:=hrel
  by_cases hlt:k < n
  ·have c0:=HCL.out _ _ _ _ HR.out k hlt
   obtain ⟨hlow,hne,hp1,hp2,hc⟩:=implStep_cases (HTS.out k hlt)
   obtain ⟨x,hx⟩:∃ y,y=T k:=⟨_,rfl⟩
   obtain ⟨y2,hy2⟩:∃ y,y=T (k+1):=⟨_,rfl⟩
   rw [← hx] at HB hlow hc
   rw [← hy2] at hc
   have HY2:=Lh hy2
   clear hx hy2
   obtain ⟨l1,l2,l3,l4⟩:=Tls.low_parts hlow
   generalize P.getD k []=wl at *
   have hws:(mkB wl).size≤40:=by rw [mkB_size];exact l4
   have hpos:0 < (mkB wl).size:=by
    rw [mkB_size]
    cases wl with
    | nil=>exact absurd rfl hne
    | cons a r=>simp
   have hwe:(mkB wl).toList.isEmpty=false:=by
    rw [mkB_list]
    cases wl with
    | nil=>exact absurd rfl hne
    | cons a r=>rfl
   have HW0:Hid ((mkB wl)[0]=wl.headD 0):=Lh (by
    cases wl with
    | nil=>exact absurd rfl hne
    | cons a r=>rfl)
   have HTK:Hid ((mkB wl).extract 0 1=mkB (wl.take 1)):=Lh (by
    rw [← mkB_of ((mkB wl).extract 0 1)]
    congr 1
    simp [mkB_data])
   have HCT:Hid (∀ W,Env W→Calls Tryz.prog 104 #[.string ((mkB wl).extract 1 (mkB wl).size),.string ⟨#[120]⟩] W fun e w'=>(∃ b,e=.returned (.tuple #[.string (mkB (partI wl).1),.string (mkB (partI wl).2),.bool b]))∧Below W.heap.size W w'):=Lh (fun W h=>by
    have h2:=cutX_any ((mkB wl).extract 1 (mkB wl).size) W h (by rw [ByteArray.size_extract];omega)
    rw [Lib.extract_to_end,mkB_data] at h2
    exact h2)
   have HD1:Hid (∀ W,Env W→Calls Tryz.prog 105 #[.string (mkB (partI wl).1)] W fun e w'=>(∃ b,e=.returned (.tuple #[.int .i64 ((specNum (partI wl).1).getD 0),.bool b]))∧Below W.heap.size W w'):=Lh (fun W h=>by
    refine (ReadDecimal_any (mkB (partI wl).1) W h (by rw [mkB_size];omega)).mono ?_
    rintro e w' ⟨h1,h2⟩
    rw [mkB_data,readDec_eq] at h1
    exact ⟨⟨_,h1⟩,h2⟩)
   have HD2:Hid (∀ W,Env W→Calls Tryz.prog 105 #[.string (mkB (partI wl).2)] W fun e w'=>(∃ b,e=.returned (.tuple #[.int .i64 ((specNum (partI wl).2).getD 0),.bool b]))∧Below W.heap.size W w'):=Lh (fun W h=>by
    refine (ReadDecimal_any (mkB (partI wl).2) W h (by rw [mkB_size];omega)).mono ?_
    rintro e w' ⟨h1,h2⟩
    rw [mkB_data,readDec_eq] at h1
    exact ⟨⟨_,h1⟩,h2⟩)
   clear hp1 hp2 hne hlow l4
   generalize (specNum (partI wl).1).getD 0=va at *
   generalize (specNum (partI wl).2).getD 0=ca at *
   generalize mkB (partI wl).1=F at *
   generalize mkB (partI wl).2=S at *
   generalize mkB wl=W at *
   have hgl:=HB.out.lt
   have hW:Wrote g (W3 g q) wr wr:=Wrote.of_below (Below.refl _ _) (Nat.le_of_lt hgl)
   go_wp2_with fail
   refine (HCT.out _ (HENV.out.kept hb0)).mono ?_
   rintro e w4 ⟨⟨b4,rfl⟩,hd⟩
   replace HB:=Lh (HB.out.kept hd)
   replace hW:=hW.same (Wrote.of_below hd (Nat.le_of_lt hgl))
   replace hgl:=Nat.lt_of_lt_of_le hgl hd.size
   have hb:=hb0.trans (hd.mono hb0.size)
   clear hd HCT c0
   go_wp2_with fail
   refine (HD1.out _ (HENV.out.kept hb)).mono ?_
   rintro e w5 ⟨⟨b5,rfl⟩,hd⟩
   replace HB:=Lh (HB.out.kept hd)
   replace hW:=hW.same (Wrote.of_below hd (Nat.le_of_lt hgl))
   replace hgl:=Nat.lt_of_lt_of_le hgl hd.size
   replace hb:=hb.trans (hd.mono hb.size)
   clear hd HD1
   go_wp2_with fail
   refine (HD2.out _ (HENV.out.kept hb)).mono ?_
   rintro e w6 ⟨⟨b6,rfl⟩,hd⟩
   replace HB:=Lh (HB.out.kept hd)
   replace hW:=hW.same (Wrote.of_below hd (Nat.le_of_lt hgl))
   replace hgl:=Nat.lt_of_lt_of_le hgl hd.size
   clear hd HD2 hb
   rcases hc with ⟨h63,hy⟩ | ⟨h63,h25,hy⟩
   ·have e63:((W[0].toNat:Int) == 63)=true:=by rw [HW0.out,h63];rfl
    have c3:=HB.out.var.cell (i:=3) rfl
    have f3:=HB.out.var.free 3
    obtain ⟨hB9,hb9⟩:=HB.out.setB ca
    replace hW:=hW.same (hb9.sub w3_box)
    rw [← hy,HY2.out] at hB9
    have HB4:=Lh hB9
    have hT:=TNew.refl wr q
    clear hB9 hb9 HB HW0 HTK h63 hy HY2
    have hGs:=(HR.out.lt G rfl).2
    have hoff:∀ b,b≤G→b≠g→∀ s∈W3 g q,offA s (some ⟨b,0,none⟩):=by
     intro b hbG hbg s hs j h4 h5
     obtain rfl:b=j:=by simpa using h5
     unfold W3 at hs
     simp only [List.mem_cons,List.not_mem_nil,or_false] at hs
     rcases hs with rfl | rfl | rfl
     ·exact hbg (by simpa using h4.symm)
     ·have:=HQ.out.1 _ h4;omega
     ·have:=HQ.out.2 _ h4;omega
    have HR4:=Lh (hW.own (hoff G (Nat.le_refl _) (by omega)) HR.out)
    have V4:=Lh (V0.out.wrote hW (hoff w.heap.size (by omega) (by omega)))
    have HQ4:Hid ((∀ k,q.values.a.map (·.block)=some k→G < k)∧∀ k,q.counts.a.map (·.block)=some k→G < k):=Lh ⟨fun j hj=>(hT.vals j hj).elim (HQ.out.1 j) (fun h=>by omega),fun j hj=>(hT.cnts j hj).elim (HQ.out.2 j) (fun h=>by omega)⟩
    have hb4:=hb0.trans (hW.below.mono (by omega))
    clear hoff HR V0 HQ hb0 hW hT hgl
    go_wp2
    go_roundw
    case rel=>exact ⟨k+1,q,by omega,by go_num,HB4,V4,HR4,HQ4,hb4⟩
    case measure=>simp [intOf];omega
   ·have e63:((W[0].toNat:Int) == 63)=false:=by
     rw [HW0.out]
     exact beq_eq_false_iff_ne.2 (fun e=>h63 (UInt8.toNat_inj.1 (by have h45:(63:UInt8).toNat=63:=rfl;omega)))
    have c0:=HB.out.var.cell (i:=0) rfl
    have f0:=HB.out.var.free 0
    go_upto_region 12 with fail
    clear e63 h63
    have hd:Below w6.heap.size w6 w6.drew:=(Below.refl _ _).drew
    clear c0 f0
    replace HB:=Lh (HB.out.kept hd)
    replace hW:=hW.same (Wrote.of_below hd (Nat.le_of_lt hgl))
    replace hgl:=Nat.lt_of_lt_of_le hgl hd.size
    clear hd
    have c0:=HB.out.var.cell (i:=0) rfl
    have f0:=HB.out.var.free 0
    have hp1i:(1:Int)≤(W.size:Int):=by omega
    have hx1:min 1 W.size=1:=by omega
    have hx2:¬ 9223372036854775807 < x.letters.size+1:=by omega
    refine wp_region_still_tail 6 (by kernel_rfl) (by kernel_rfl) ?_
    simp only [List.take_succ_cons,List.take_zero,List.drop_succ_cons,List.drop_zero]
    change wpStill _ _ w6.drew (fun a'=>wpList _ _ _ _ a' w6.drew) _ _
    generalize w6.drew=wd at *
    repeat still_step
    refine wpStill_nil ?_
    obtain ⟨hB9,hb9⟩:=HB.out.setL (x.letters++W.extract 0 1)
    replace hW:=hW.same (hb9.sub w3_box)
    replace HB:=Lh hB9
    have hgl:=hB9.lt
    clear hB9 hb9
    go_upto_region 13 with fail
    clear c0 f0 hp1i hx1 hx2
    generalize wd.setCell ⟨g,0,none⟩ (.string (x.letters++W.extract 0 1))=we at *
    obtain ⟨z,hze⟩:∃ y:Tls,y={ x with letters:=x.letters++W.extract 0 1 }:=⟨_,rfl⟩
    have HX:Hid ({ z with values:=z.values++[va],counts:=z.counts++[ca] }=y2):=Lh (by rw [hze,hy];unfold Tls.add;rw [← HTK.out])
    have hzl:z.letters.size≤26:=by rw [hze];show (x.letters++W.extract 0 1).size≤26;rw [ByteArray.size_append,ByteArray.size_extract];omega
    have hxv:z.values.length≤26:=by rw [hze];exact l2
    have hxc:z.counts.length≤26:=by rw [hze];exact l3
    rw [← hze] at HB
    clear hze hy HTK HW0
    have c1:=HB.out.var.cell (i:=1) rfl
    have hx:Below we.heap.size we (we.alloc (.cells #[.int .i64 va] 2)):=(Below.refl _ _).alloc (Nat.le_refl _) _
    have KN:=Lh (new_i64 we va 2)
    have HBX:=Lh (HB.out.kept hx)
    have hbx:=hW.same (Wrote.of_below hx (Nat.le_of_lt hgl))
    have hgx:g+1≤(we.alloc (.cells #[.int .i64 va] 2)).heap.size:=Nat.le_trans hgl hx.size
    clear HB hW hx
    go_wp2_with (at_builtin;go_must (refine wpList_append_lies _ rfl (.tmp 54) (.tmp 56) 22 rfl (g+1) 2 i0 _ 1 8 Tryz.underlying22 hi0 hi1 hi2 hi3 rfl (by decide) _ z.values.length (z.values.flatMap I64.enc) (by rfl) HBX.out.vals ⟨we.heap.size,0,none⟩ 1 1 (I64.enc va) (by rfl) rfl KN.out (i64_one va) (by decide) ?c1 ?c2 hgx _ rfl ?_))
    case c1=>unfold maxLen;omega
    case c2=>omega
    intro g7 cap7 w7 hown hgr hwh hlt7
    have hwh2:(Value.slice q.values.a z.values.length q.values.c).ownBlock=some g7∨g7=(we.alloc (.cells #[.int .i64 va] 2)).heap.size:=hwh.imp_right (fun e=>e.trans (by simp))
    have hV:=(HBX.out.wrote hgr (fun k hk=>(own_lt HBX.out.vals k hk).1)).2
    have e1:=hV.cell (i:=1) rfl
    have f1:=hV.free 1
    obtain ⟨hB9,hb9⟩:=HBX.out.addv hown hgr hwh2
    have hW:=hbx.same (hb9.sub w3_vals)
    have hnv:=own_or hwh2 hbx.size
    obtain ⟨x1,hx1⟩:∃ y:Tls,y={ z with values:=z.values++[va] }:=⟨_,rfl⟩
    rw [← hx1] at hB9
    have HB:=Lh hB9
    have hgl:=hB9.lt
    have hxc1:x1.counts.length≤26:=by rw [hx1];exact hxc
    have hxl1:x1.letters.size≤26:=by rw [hx1];exact hzl
    have HX1:Hid ({ x1 with counts:=x1.counts++[ca] }=y2):=Lh (by rw [hx1];exact HX.out)
    clear hown hgr hwh hwh2 hlt7 hV hB9 hb9 HBX hbx hgx KN c1
    go_upto_region 14 with fail
    clear e1 f1
    generalize w7.setCell ⟨g,1,none⟩ (.slice (some ⟨g7,0,none⟩) (z.values.length+1) cap7)=wf at *
    clear hx1 hxv hxc hzl HX
    have c1:=HB.out.var.cell (i:=2) rfl
    have hx:Below wf.heap.size wf (wf.alloc (.cells #[.int .i64 ca] 2)):=(Below.refl _ _).alloc (Nat.le_refl _) _
    have KN:=Lh (new_i64 wf ca 2)
    have HBX:=Lh (HB.out.kept hx)
    have hbx:=hW.same (Wrote.of_below hx (Nat.le_of_lt hgl))
    have hgx:g+1≤(wf.alloc (.cells #[.int .i64 ca] 2)).heap.size:=Nat.le_trans hgl hx.size
    clear HB hW hx
    go_wp2_with (at_builtin;go_must (refine wpList_append_lies _ rfl (.tmp 60) (.tmp 62) 22 rfl (g+1) 2 i0 _ 1 8 Tryz.underlying22 hi0 hi1 hi2 hi3 rfl (by decide) _ x1.counts.length (x1.counts.flatMap I64.enc) (by rfl) HBX.out.cnts ⟨wf.heap.size,0,none⟩ 1 1 (I64.enc ca) (by rfl) rfl KN.out (i64_one ca) (by decide) ?c1 ?c2 hgx _ rfl ?_))
    case c1=>unfold maxLen;omega
    case c2=>omega
    intro g7 cap7 w7 hown hgr hwh hlt7
    have hwh2:(Value.slice q.counts.a x1.counts.length q.counts.c).ownBlock=some g7∨g7=(wf.alloc (.cells #[.int .i64 ca] 2)).heap.size:=hwh.imp_right (fun e=>e.trans (by simp))
    have hV:=(HBX.out.wrote hgr (fun k hk=>(own_lt HBX.out.cnts k hk).1)).2
    have e1:=hV.cell (i:=2) rfl
    have f1:=hV.free 2
    obtain ⟨hB9,hb9⟩:=HBX.out.addc hown hgr hwh2
    have hW:=hbx.same (hb9.sub (w3_cnts rfl))
    have hnc:=own_or hwh2 hbx.size
    obtain ⟨x2,hx2⟩:∃ y:Tls,y={ x1 with counts:=x1.counts++[ca] }:=⟨_,rfl⟩
    rw [← hx2] at hB9
    have HB:=Lh hB9
    have hgl:=hB9.lt
    have hxl2:¬ (26:Int) < (x2.letters.size:Int):=by rw [hx2];show ¬ (26:Int) < (x1.letters.size:Int);omega
    have HX2:Hid (x2=y2):=Lh (by rw [hx2];exact HX1.out)
    clear hown hgr hwh hwh2 hlt7 hV hB9 hb9 HBX hbx hgx KN c1
    go_upto_region 15 with fail
    clear e1 f1
    generalize w7.setCell ⟨g,2,none⟩ (.slice (some ⟨g7,0,none⟩) (x1.counts.length+1) cap7)=wh at *
    have c0:=HB.out.var.cell (i:=0) (v:=.string x2.letters) rfl
    have hfin:=HB.out
    rw [HX2.out,HY2.out] at hfin
    obtain ⟨q2,HB4,hT⟩:∃ q2,Hid (TBox wh g (T (k+1)) q2)∧TNew wr q q2:=⟨_,Lh hfin,⟨hnv,hnc⟩⟩
    clear hfin hx2 hxl1 HX1 HX2 HY2 HB hnv hnc
    have hGs:=(HR.out.lt G rfl).2
    have hoff:∀ b,b≤G→b≠g→∀ s∈W3 g q,offA s (some ⟨b,0,none⟩):=by
     intro b hbG hbg s hs j h4 h5
     obtain rfl:b=j:=by simpa using h5
     unfold W3 at hs
     simp only [List.mem_cons,List.not_mem_nil,or_false] at hs
     rcases hs with rfl | rfl | rfl
     ·exact hbg (by simpa using h4.symm)
     ·have:=HQ.out.1 _ h4;omega
     ·have:=HQ.out.2 _ h4;omega
    have HR4:=Lh (hW.own (hoff G (Nat.le_refl _) (by omega)) HR.out)
    have V4:=Lh (V0.out.wrote hW (hoff w.heap.size (by omega) (by omega)))
    have HQ4:Hid ((∀ k,q2.values.a.map (·.block)=some k→G < k)∧∀ k,q2.counts.a.map (·.block)=some k→G < k):=Lh ⟨fun j hj=>(hT.vals j hj).elim (HQ.out.1 j) (fun h=>by omega),fun j hj=>(hT.cnts j hj).elim (HQ.out.2 j) (fun h=>by omega)⟩
    have hb4:=hb0.trans (hW.below.mono (by omega))
    clear hoff HR V0 HQ hb0 hW hT hgl
    go_wp2
    go_roundw
    case rel=>exact ⟨k+1,q2,by omega,by go_num,HB4,V4,HR4,HQ4,hb4⟩
    case measure=>simp [intOf];omega
  ·obtain rfl:k=n:=by omega
   have HB5:=HB.out
   rw [HTN.out] at HB5
   replace HB:=Lh HB5
   clear HB5 HR HQ HCL HTS HT0
   have HVT:Hid (∀ W,t.At q W→Calls Tryz.prog 68 #[.agg #[.string t.letters,.slice q.values.a t.values.length q.values.c,.slice q.counts.a t.counts.length q.counts.c,.int .i64 t.blanks]] W fun e w'=>e=.returned (.bool true)∧Below W.heap.size W w'):=Lh (fun W h=>by
    have hg:=Tls.good HOK.out
    have:=ValidTiles_any t q W h ⟨by have:=hg.hi;omega,by have:=hg.hi;have:=hg.values;omega,by have:=hg.hi;have:=hg.counts;omega⟩ (by have:=hg.hi;omega)
    rwa [HOK.out] at this)
   have c0:=HB.out.var.cell (i:=0) rfl
   have c1:=HB.out.var.cell (i:=1) rfl
   have c2:=HB.out.var.cell (i:=2) rfl
   have c3:=HB.out.var.cell (i:=3) rfl
   go_wp2_with fail
   refine (HVT.out _ HB.out.own.at).mono ?_
   rintro e w5 ⟨rfl,hd⟩
   replace HB:=Lh (HB.out.kept hd)
   replace V0:=Lh (V0.out.kept hd)
   replace hb0:=hb0.trans (hd.mono hb0.size)
   clear hd c0 c1 c2 c3 HVT
   have c0:=HB.out.var.cell (i:=0) rfl
   have c1:=HB.out.var.cell (i:=1) rfl
   have c2:=HB.out.var.cell (i:=2) rfl
   have c3:=HB.out.var.cell (i:=3) rfl
   go_wp2_with fail
   refine (HTT.out q _ HB.out.own.at (HENV.out.kept hb0)).mono ?_
   rintro e w6 ⟨rfl,hd⟩
   replace HB:=Lh (HB.out.kept hd)
   replace V0:=Lh (V0.out.kept hd)
   replace hb0:=hb0.trans (hd.mono hb0.size)
   clear hd c0 c1 c2 c3 HTT
   have c0:=HB.out.var.cell (i:=0) rfl
   have c1:=HB.out.var.cell (i:=1) rfl
   have c2:=HB.out.var.cell (i:=2) rfl
   have c3:=HB.out.var.cell (i:=3) rfl
   have d0:=V0.out.cell (i:=0) rfl
   have d1:=V0.out.cell (i:=1) rfl
   have d2:=V0.out.cell (i:=2) rfl
   have d3:=V0.out.cell (i:=3) rfl
   have f0:=V0.out.free 0
   have f1:=V0.out.free 1
   have f2:=V0.out.free 2
   have f3:=V0.out.free 3
   obtain ⟨o0,k0⟩:=V0.out.set 0 (.string t.letters)
   obtain ⟨o1,k1⟩:=o0.set 1 (.slice q.values.a t.values.length q.values.c)
   obtain ⟨o2,k2⟩:=o1.set 2 (.slice q.counts.a t.counts.length q.counts.c)
   obtain ⟨o3,k3⟩:=o2.set 3 (.int .i64 t.blanks)
   have GG:=grownBy_trans (grownBy_trans (grownBy_trans k0 k1) k2) k3
   have hb9:=hb0.grown GG hb0.size (fun q h=>by cases h;exact Nat.le_refl _)
   have e0:=o3.cell (i:=0) (v:=(.string t.letters)) rfl
   have e1:=o3.cell (i:=1) (v:=(.slice q.values.a t.values.length q.values.c)) rfl
   have e2:=o3.cell (i:=2) (v:=(.slice q.counts.a t.counts.length q.counts.c)) rfl
   have e3:=o3.cell (i:=3) (v:=(.int .i64 t.blanks)) rfl
   have hAt:=Tls.Own.mono (Tls.Own.store HB.out.own GG (by omega)) (show w.heap.size≤g+1 by omega)
   clear o0 o1 o2 o3 k0 k1 k2 k3 GG
   go_wp2
   refine bodyPost_ret (v:=.tuple #[.agg #[.string t.letters,.slice q.values.a t.values.length q.values.c,.slice q.counts.a t.counts.length q.counts.c,.int .i64 t.blanks],.bool true]) (by simp [results,Tryz.results65,go_sem,e0,e1,e2,e3]) rfl ?_
   exact ⟨q,rfl,hAt,hb9⟩
end Go.Proofs.YtgphkffbbmmmmaaGreatDoor
set_option maxRecDepth 1000000
set_option maxHeartbeats 4000000
namespace Go.Proofs.YtgphkffbbmmmmaaGreatDoor
open Go.ChangeShapes Go.WideShapes Go.ChangeAt Go.RowKit Go.Sort Go.Maps

theorem mk_insert {H:Type} {P:Program} (w:World) {ops:Array Oper} {rest:List Oper} {o:Oper} {a:Act} {Q:Exit→Act→World→Prop}
  (hg:o.guard=none) (m x v:Operand) (t:TypeId) (hop:o.op=Op.insert t m x v)
  (k e:TypeId) (K:Keyed P k) (ht:P.underlying t=some (.map k e)) (R:Value→Option (DataW H × List MemPlace)) (b n:Nat) (D:DataW H)
  (hm:a.eval m=.map (some b)) (hown:w.ownsMap P k R b n D) (hn:n < maxLen) (key val:Value) (kl:Lit) (hx:a.eval x=key) (hv:a.eval v=val) (hkey:keyOf P k key=some kl)
  (d:DataW H) (ps:List MemPlace) (hval:R val=some (d,ps))
  (hK:∀ w',w'.ownsMap P k R b (n+1) (D.put kl d)→w.grownBy w' (some b)→wpList P ops Q rest (a.put o.dst undef) w') :
  wpList P ops Q (o :: rest) a w:=by
 refine wpList_plain hg fun K' hK'=>?_
 obtain ⟨w',hrun,r1,r2⟩:=hown.update K ht hn hkey hval
 unfold Oper.wp
 simp [execOp,hop,hm,hx,hv,hrun,Result.andThen]
 exact hK' _ _ (hK w' r1 r2)
theorem keys9:Keyed Tryz.prog 9:=string_keyed Tryz.underlying9
theorem zero9 (w:World):(zeroValue 9).run Tryz.prog w=.ok (.string ⟨#[]⟩) w:=by kernel_rfl
noncomputable def elemS (v:Value):Option (DataW Unit × List MemPlace):=plainElem Tryz.prog 9 v
theorem elemS_mk (s:ByteArray) (hs:s.size≤maxLen):elemS (.string s)=some (.lit (.string s.data.toList),[]):=plainElem_string Tryz.underlying9 hs
theorem elemS_inv {v:Value} {z:List UInt8} {ps:List MemPlace} (h:elemS v=some (.lit (.string z),ps)):v=.string (mkB z):=by
 unfold elemS plainElem at h
 rw [Tryz.underlying9] at h
 cases v<;>simp at h
 rw [← h.2.1,mkB_of]
def mapT:DataW Unit:=.map [(.string englishN.data.toList,.lit (.string englishX.data.toList)),(.string smallN.data.toList,.lit (.string smallX.data.toList))]
theorem map_put:((DataW.map []).put (.string englishN.data.toList) (.lit (.string englishX.data.toList))).put (.string smallN.data.toList) (.lit (.string smallX.data.toList))=mapT:=by kernel_rfl
theorem key_no {s:ByteArray} (h:tileName s=none):DataW.atKey mapT (.string s.data.toList) (.lit (.string []))=.lit (.string [])∧Maps.has mapT (.string s.data.toList)=false:=by
 unfold tileName at h
 split at h
 ·cases h
 ·rename_i h1
  split at h
  ·cases h
  ·rename_i h2
   have e1:(englishN.data.toList == s.data.toList)=false:=beq_eq_false_iff_ne.2 (fun e=>h1 e.symm)
   have e2:(smallN.data.toList == s.data.toList)=false:=beq_eq_false_iff_ne.2 (fun e=>h2 e.symm)
   constructor
   ·simp only [mapT,DataW.atKey,List.find?,Lit.sameKey,e1,e2]
   ·simp only [mapT,Maps.has,List.any,Lit.sameKey,e1,e2,Bool.false_or]
theorem key_yes {s:ByteArray} {t:Tls} (h:tileName s=some t):∃ X:ByteArray,t.Text X∧DataW.atKey mapT (.string s.data.toList) (.lit (.string []))=.lit (.string X.data.toList)∧Maps.has mapT (.string s.data.toList)=true∧standX s=X:=by
 unfold tileName at h
 split at h
 ·rename_i h1
  cases h
  have e1:(englishN.data.toList == s.data.toList)=true:=beq_iff_eq.2 h1.symm
  refine ⟨englishX,text_english,?_,?_,if_pos h1⟩
  ·simp only [mapT,DataW.atKey,List.find?,Lit.sameKey,e1]
  ·simp only [mapT,Maps.has,List.any,Lit.sameKey,e1,Bool.true_or]
 ·rename_i h1
  split at h
  ·rename_i h2
   cases h
   have e1:(englishN.data.toList == s.data.toList)=false:=beq_eq_false_iff_ne.2 (fun e=>h1 e.symm)
   have e2:(smallN.data.toList == s.data.toList)=true:=beq_iff_eq.2 h2.symm
   refine ⟨smallX,text_small,?_,?_,(if_neg h1).trans (if_pos h2)⟩
   ·simp only [mapT,DataW.atKey,List.find?,Lit.sameKey,e1,e2]
   ·simp only [mapT,Maps.has,List.any,Lit.sameKey,e1,e2,Bool.true_or,Bool.false_or]
  ·cases h
theorem look_any {w:World} {b n:Nat} (s:ByteArray) (h:w.ownsMap Tryz.prog 9 elemS b n mapT) (hs:s.size≤maxLen) {X:ByteArray} (hX:DataW.atKey mapT (.string s.data.toList) (.lit (.string []))=.lit (.string X.data.toList)) :
  (Instr.lookup 93 (.map (some b)) (.string s) true).run Tryz.prog w=.ok (.tuple #[.string X,.bool (Maps.has mapT (.string s.data.toList))]) w:=by
 obtain ⟨v,ps,h1,h2⟩:=h.look_ok keys9 Tryz.underlying93 (zero9 w) (zd:=.lit (.string [])) (zp:=[]) (elemS_mk ⟨#[]⟩ (by unfold maxLen;decide)) (Go.WideMaps.keyOf_string_mk Tryz.underlying9 hs)
 rw [hX] at h2
 rw [h1,elemS_inv h2,mkB_of]
theorem implTiles_any (t:Tls) (s:ByteArray) (w:World) (hs:tileName s=some t) (hl:s.size≤1048576) (he:Env w):Calls Tryz.prog 28 #[.string s] w (TlPost t (.int .i64 0) w):=by
 have hb0:Below w.heap.size w (w.alloc (.cells #[.string ⟨#[]⟩,.slice none 0 0,.slice none 0 0,.int .i64 0] 24)):=(Below.refl _ _).alloc (Nat.le_refl _) _
 have V0:=Lh (VarAt.new w 24 [.string ⟨#[]⟩,.slice none 0 0,.slice none 0 0,.int .i64 0])
 have hlt0:=V0.out.lt
 have HENV:=Lh he
 obtain ⟨X,hX,hat,hhas,_⟩:=key_yes hs
 have HRD:=Lh (fun W h=>ReadTiles_any t X W hX h)
 have HLK:Hid (∀ W b n,W.ownsMap Tryz.prog 9 elemS b n mapT→(Instr.lookup 93 (.map (some b)) (.string s) true).run Tryz.prog W=.ok (.tuple #[.string X,.bool true]) W):=Lh (fun W b n h=>by have:=look_any s h (by unfold maxLen;omega) hat;rwa [hhas] at this)
 clear hat hhas hX hs he
 have hmm:=@run_makeMap Tryz.prog
 go_enter Tryz.func28,Tryz.ntmps28
 go_upto_region 1 with fail
 generalize w.alloc (.cells #[.string ⟨#[]⟩,.slice none 0 0,.slice none 0 0,.int .i64 0] 24)=w1 at *
 have hd:Below w1.heap.size w1 (w1.alloc (.map #[] 0)):=(Below.refl _ _).alloc (Nat.le_refl _) _
 have HM:=Lh (World.ownsMap_made w1 Tryz.prog 9 elemS)
 replace V0:=Lh (V0.out.kept hd)
 replace hb0:=hb0.trans (hd.mono hb0.size)
 clear hd
 go_wp2_with (refine mk_insert _ rfl _ _ _ 93 rfl 9 9 keys9 Tryz.underlying93 elemS w1.heap.size 0 _ rfl HM.out (by unfold maxLen;decide) (.string englishN) (.string englishX) _ rfl rfl (Go.WideMaps.keyOf_string_mk Tryz.underlying9 (by unfold maxLen;decide)) _ _ (elemS_mk englishX (by unfold maxLen;decide)) ?_)
 intro w2 hm2 hg2
 replace V0:=Lh (V0.out.grown hg2 (by simp;omega))
 replace hb0:=hb0.grown hg2 hb0.size (fun q h=>by cases h;omega)
 replace HM:=Lh hm2
 clear hg2 hm2
 go_wp2_with (refine mk_insert _ rfl _ _ _ 93 rfl 9 9 keys9 Tryz.underlying93 elemS w1.heap.size 1 _ rfl HM.out (by unfold maxLen;decide) (.string smallN) (.string smallX) _ rfl rfl (Go.WideMaps.keyOf_string_mk Tryz.underlying9 (by unfold maxLen;decide)) _ _ (elemS_mk smallX (by unfold maxLen;decide)) ?_)
 intro w3 hm3 hg3
 rw [map_put] at hm3
 replace V0:=Lh (V0.out.grown hg3 (by simp;omega))
 replace hb0:=hb0.grown hg3 hb0.size (fun q h=>by cases h;omega)
 have hlk:=HLK.out _ _ _ hm3
 clear hg3 hm3 HM HLK hmm
 have hlt3:=V0.out.lt
 go_wp2_with fail
 refine (HRD.out _ (HENV.out.kept hb0)).mono ?_
 rintro e w4 ⟨q,rfl,hat,hd⟩
 replace V0:=Lh (V0.out.kept hd)
 have hz4:=hb0.size
 replace hb0:=hb0.trans (hd.mono hb0.size)
 clear hd HRD hlk
 have V1:=Lh (VarAt.new w4 24 [.string t.letters,.slice q.values.a t.values.length q.values.c,.slice q.counts.a t.counts.length q.counts.c,.int .i64 t.blanks])
 have hx:Below w4.heap.size w4 (w4.alloc (.cells #[.string t.letters,.slice q.values.a t.values.length q.values.c,.slice q.counts.a t.counts.length q.counts.c,.int .i64 t.blanks] 24)):=(Below.refl _ _).alloc (Nat.le_refl _) _
 replace V0:=Lh (V0.out.kept hx)
 replace hb0:=hb0.trans (hx.mono hb0.size)
 replace hat:=Tls.Own.kept hat hx
 clear hx
 go_upto_region 6 with fail
 generalize w4.alloc (.cells #[.string t.letters,.slice q.values.a t.values.length q.values.c,.slice q.counts.a t.counts.length q.counts.c,.int .i64 t.blanks] 24)=w5 at *
 generalize w4.heap.size=B at *
 have c0:=V1.out.cell (i:=0) rfl
 have c1:=V1.out.cell (i:=1) rfl
 have c2:=V1.out.cell (i:=2) rfl
 have c3:=V1.out.cell (i:=3) rfl
 have d0:=V0.out.cell (i:=0) rfl
 have d1:=V0.out.cell (i:=1) rfl
 have d2:=V0.out.cell (i:=2) rfl
 have d3:=V0.out.cell (i:=3) rfl
 have f0:=V0.out.free 0
 have f1:=V0.out.free 1
 have f2:=V0.out.free 2
 have f3:=V0.out.free 3
 obtain ⟨o0,k0⟩:=V0.out.set 0 (.string t.letters)
 obtain ⟨o1,k1⟩:=o0.set 1 (.slice q.values.a t.values.length q.values.c)
 obtain ⟨o2,k2⟩:=o1.set 2 (.slice q.counts.a t.counts.length q.counts.c)
 obtain ⟨o3,k3⟩:=o2.set 3 (.int .i64 t.blanks)
 have GG:=grownBy_trans (grownBy_trans (grownBy_trans k0 k1) k2) k3
 have hb9:=hb0.grown GG hb0.size (fun q h=>by cases h;exact Nat.le_refl _)
 have e0:=o3.cell (i:=0) (v:=(.string t.letters)) rfl
 have e1:=o3.cell (i:=1) (v:=(.slice q.values.a t.values.length q.values.c)) rfl
 have e2:=o3.cell (i:=2) (v:=(.slice q.counts.a t.counts.length q.counts.c)) rfl
 have e3:=o3.cell (i:=3) (v:=(.int .i64 t.blanks)) rfl
 have hAt:=Tls.Own.mono (Tls.Own.store hat GG hlt3) (Nat.le_of_lt hlt3)
 clear o0 o1 o2 o3 k0 k1 k2 k3 GG
 go_wp2
 refine bodyPost_ret (v:=.tuple #[.agg #[.string t.letters,.slice q.values.a t.values.length q.values.c,.slice q.counts.a t.counts.length q.counts.c,.int .i64 t.blanks],.int .i64 0]) (by simp [results,Tryz.results28,go_sem,e0,e1,e2,e3]) rfl ?_
 exact ⟨q,rfl,hAt,hb9⟩
theorem implTiles_none (s:ByteArray) (w:World) (hs:tileName s=none) (hl:s.size≤1048576):Calls Tryz.prog 28 #[.string s] w fun e w'=>e=.returned (.tuple #[zTls,.int .i64 3])∧Below w.heap.size w w':=by
 have hb0:Below w.heap.size w (w.alloc (.cells #[.string ⟨#[]⟩,.slice none 0 0,.slice none 0 0,.int .i64 0] 24)):=(Below.refl _ _).alloc (Nat.le_refl _) _
 have V0:=Lh (VarAt.new w 24 [.string ⟨#[]⟩,.slice none 0 0,.slice none 0 0,.int .i64 0])
 have hlt0:=V0.out.lt
 obtain ⟨hat,hhas⟩:=key_no hs
 have HLK:Hid (∀ W b n,W.ownsMap Tryz.prog 9 elemS b n mapT→(Instr.lookup 93 (.map (some b)) (.string s) true).run Tryz.prog W=.ok (.tuple #[.string ⟨#[]⟩,.bool false]) W):=Lh (fun W b n h=>by have:=look_any s h (by unfold maxLen;omega) (X:=⟨#[]⟩) hat;rwa [hhas] at this)
 clear hat hhas hs
 have hmm:=@run_makeMap Tryz.prog
 go_enter Tryz.func28,Tryz.ntmps28
 go_upto_region 1 with fail
 generalize w.alloc (.cells #[.string ⟨#[]⟩,.slice none 0 0,.slice none 0 0,.int .i64 0] 24)=w1 at *
 have hd:Below w1.heap.size w1 (w1.alloc (.map #[] 0)):=(Below.refl _ _).alloc (Nat.le_refl _) _
 have HM:=Lh (World.ownsMap_made w1 Tryz.prog 9 elemS)
 replace V0:=Lh (V0.out.kept hd)
 replace hb0:=hb0.trans (hd.mono hb0.size)
 clear hd
 go_wp2_with (refine mk_insert _ rfl _ _ _ 93 rfl 9 9 keys9 Tryz.underlying93 elemS w1.heap.size 0 _ rfl HM.out (by unfold maxLen;decide) (.string englishN) (.string englishX) _ rfl rfl (Go.WideMaps.keyOf_string_mk Tryz.underlying9 (by unfold maxLen;decide)) _ _ (elemS_mk englishX (by unfold maxLen;decide)) ?_)
 intro w2 hm2 hg2
 replace V0:=Lh (V0.out.grown hg2 (by simp;omega))
 replace hb0:=hb0.grown hg2 hb0.size (fun q h=>by cases h;omega)
 replace HM:=Lh hm2
 clear hg2 hm2
 go_wp2_with (refine mk_insert _ rfl _ _ _ 93 rfl 9 9 keys9 Tryz.underlying93 elemS w1.heap.size 1 _ rfl HM.out (by unfold maxLen;decide) (.string smallN) (.string smallX) _ rfl rfl (Go.WideMaps.keyOf_string_mk Tryz.underlying9 (by unfold maxLen;decide)) _ _ (elemS_mk smallX (by unfold maxLen;decide)) ?_)
 intro w3 hm3 hg3
 rw [map_put] at hm3
 replace V0:=Lh (V0.out.grown hg3 (by simp;omega))
 replace hb0:=hb0.grown hg3 hb0.size (fun q h=>by cases h;omega)
 have hlk:=HLK.out _ _ _ hm3
 clear hg3 hm3 HM HLK hmm
 go_upto_region 3 with fail
 clear hlk
 have d0:=V0.out.cell (i:=0) rfl
 have d1:=V0.out.cell (i:=1) rfl
 have d2:=V0.out.cell (i:=2) rfl
 have d3:=V0.out.cell (i:=3) rfl
 have f0:=V0.out.free 0
 have f1:=V0.out.free 1
 have f2:=V0.out.free 2
 have f3:=V0.out.free 3
 obtain ⟨o0,k0⟩:=V0.out.set 0 (.string ⟨#[]⟩)
 obtain ⟨o1,k1⟩:=o0.set 1 (.slice none 0 0)
 obtain ⟨o2,k2⟩:=o1.set 2 (.slice none 0 0)
 obtain ⟨o3,k3⟩:=o2.set 3 (.int .i64 0)
 have GG:=grownBy_trans (grownBy_trans (grownBy_trans k0 k1) k2) k3
 have hb9:=hb0.grown GG hb0.size (fun q h=>by cases h;exact Nat.le_refl _)
 have e0:=o3.cell (i:=0) (v:=(.string ⟨#[]⟩)) rfl
 have e1:=o3.cell (i:=1) (v:=(.slice none 0 0)) rfl
 have e2:=o3.cell (i:=2) (v:=(.slice none 0 0)) rfl
 have e3:=o3.cell (i:=3) (v:=(.int .i64 0)) rfl
 clear o0 o1 o2 o3 k0 k1 k2 k3 GG
 go_wp2
 refine bodyPost_ret (v:=.tuple #[zTls,.int .i64 3]) (by simp [results,Tryz.results28,go_sem,e0,e1,e2,e3,zTls]) rfl ?_
 exact ⟨rfl,hb9⟩
end Go.Proofs.YtgphkffbbmmmmaaGreatDoor
