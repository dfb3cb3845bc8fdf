/- Contracts: the line of scores of a game: the reference. A valid game. · Contracts: the line of scores of a game: the program. A valid game; Go's table of powers o -/
import Derived.Test.YtalnbgcdhcnjfaaGreatDoorGfP
import Derived.Test.YtalnbgcdhcnjfaaGreatDoorDecW
import Derived.Test.YtalnbgcdhcnjfaaGreatDoorGmR
import Derived.Test.YtalnbgcdhcnjfaaGreatDoorDoA
import Derived.Test.YtalnbgcdhcnjfaaGreatDoorGpG
set_option maxRecDepth 100000
set_option maxHeartbeats 4000000
namespace Go.Proofs.YtalnbgcdhcnjfaaGreatDoor
open Go.ChangeShapes Go.WideShapes Go.ChangeAt Go.RowKit Go.Sort

/-- the numbers of the line -/
def lineOf (a b c d e:Int):List UInt8:=Lib.itoa a++[32]++Lib.itoa b++[32]++Lib.itoa c++[32]++Lib.itoa d++[32]++Lib.itoa e
def overL (l:List UInt8) (b:Bool):List UInt8:=if b=true then l++[32,111,118,101,114] else l
def Gam.lineL (x:Gam):List UInt8:=overL (lineOf (x.scores.getD 0 0) (x.scores.getD 1 0) x.player x.bag.size x.zeros) x.over
def Gam.scoreL (x:Gam):List UInt8:=if x.ok=true then x.lineL else []
theorem lineOf_eq (a b c d e:Int):mkB (Lib.itoa a)++⟨#[32]⟩++mkB (Lib.itoa b)++⟨#[32]⟩++mkB (Lib.itoa c)++⟨#[32]⟩++mkB (Lib.itoa d)++⟨#[32]⟩++mkB (Lib.itoa e)=mkB (lineOf a b c d e):=by
 unfold lineOf
 simp only [cat_mk,mkB_data,List.append_assoc]
theorem overL_eq (l:List UInt8):mkB l++⟨#[32,111,118,101,114]⟩=mkB (overL l true):=by
 unfold overL
 rw [if_pos rfl,cat_mk,mkB_data]
theorem lineOf_len {a b c d e:Int} (ha:-100000≤a∧a≤100000) (hb:-100000≤b∧b≤100000) (hc:-100000≤c∧c≤100000) (hd:-100000≤d∧d≤100000) (he:-100000≤e∧e≤100000):(lineOf a b c d e).length≤109:=by
 have h1:=Lib.itoa_length_le a (by omega) (by omega)
 have h2:=Lib.itoa_length_le b (by omega) (by omega)
 have h3:=Lib.itoa_length_le c (by omega) (by omega)
 have h4:=Lib.itoa_length_le d (by omega) (by omega)
 have h5:=Lib.itoa_length_le e (by omega) (by omega)
 unfold lineOf
 simp only [List.length_append,List.length_cons,List.length_nil]
 omega
theorem l27Line_any (x:Gam) (p:GaA) (g:Nat) (w:World) (hg:GAt w g x p) (hk:x.ok=true) :
  Calls Tryz.prog 51 #[.pointer (some ⟨g,0,none⟩)] w (StrPost w x.lineL):=by
 have hf:=Gam.fine hk
 have hbg:=(bag_parts hf.bag).2
 have hbs:x.bag.size≤120:=by simpa using hbg
 have s0:=hf.score 0 (by omega)
 have s1:=hf.score 1 (by omega)
 have hp:=hf.player
 have hz:=hf.zeros
 obtain ⟨sb,so,hsa,t0⟩:=num_cell hg.at_.2.2.1 (show 0 < x.scores.length by have:=hf.scores;omega)
 obtain ⟨sb1,so1,hsb,t1⟩:=num_cell hg.at_.2.2.1 (show 1 < x.scores.length by have:=hf.scores;omega)
 rw [hsa] at hsb
 cases hsb
 rw [Nat.add_zero] at t0
 have c15:=hg.cell (i:=15) rfl
 rw [hsa,hf.scores] at c15
 have c13:=hg.cell (i:=13) rfl
 have c17:=hg.cell (i:=17) rfl
 have c18:=hg.cell (i:=18) rfl
 have c29:=hg.cell (i:=29) rfl
 have HLN:Hid (x.lineL=overL (lineOf (x.scores.getD 0 0) (x.scores.getD 1 0) x.player x.bag.size x.zeros) x.over):=Lh rfl
 clear hg hk hf hbg hsa
 generalize x.scores.getD 0 0=n0 at *
 generalize x.scores.getD 1 0=n1 at *
 generalize x.player=n2 at *
 generalize x.zeros=n4 at *
 have HL:=Lh (lineOf_eq n0 n1 n2 x.bag.size n4)
 have hll:=lineOf_len (a:=n0) (b:=n1) (c:=n2) (d:=x.bag.size) (e:=n4) (by omega) (by omega) (by omega) (by omega) (by omega)
 have z0:(mkB (Lib.itoa n0)).size≤21:=by rw [mkB_size];exact Lib.itoa_length_le _ (by omega) (by omega)
 have z1:(mkB (Lib.itoa n1)).size≤21:=by rw [mkB_size];exact Lib.itoa_length_le _ (by omega) (by omega)
 have z2:(mkB (Lib.itoa n2)).size≤21:=by rw [mkB_size];exact Lib.itoa_length_le _ (by omega) (by omega)
 have z3:(mkB (Lib.itoa x.bag.size)).size≤21:=by rw [mkB_size];exact Lib.itoa_length_le _ (by omega) (by omega)
 have z4:(mkB (Lib.itoa n4)).size≤21:=by rw [mkB_size];exact Lib.itoa_length_le _ (by omega) (by omega)
 have D0:=Lh (fun W=>l01Dec_any n0 (by omega) (by omega) W)
 have D1:=Lh (fun W=>l01Dec_any n1 (by omega) (by omega) W)
 have D2:=Lh (fun W=>l01Dec_any n2 (by omega) (by omega) W)
 have D3:=Lh (fun W=>l01Dec_any x.bag.size (by omega) (by omega) W)
 have D4:=Lh (fun W=>l01Dec_any n4 (by omega) (by omega) W)
 have e13:=cell_regrown c13
 have e15:=cell_regrown c15
 have e17:=cell_regrown c17
 have e18:=cell_regrown c18
 have e0:=cell_regrown t0
 have e1:=cell_regrown t1
 go_enter Tryz.func51,Tryz.ntmps51
 go_upto_region 1 with fail
 clear c13 c15 c17 c18 t0 t1
 refine wp_region_quiet_below (by kernel_rfl) (by kernel_rfl) ?_
 repeat (go_big_quiet_step ((first
  | (go_at_call_of 86 (Value.int IntKind.i64 n0);exact Calls.regrown_of (D0.out _))
  | (go_at_call_of 86 (Value.int IntKind.i64 n1);exact Calls.regrown_of (D1.out _))
  | (go_at_call_of 86 (Value.int IntKind.i64 n2);exact Calls.regrown_of (D2.out _))
  | (go_at_call_of 86 (Value.int IntKind.i64 n4);exact Calls.regrown_of (D4.out _))
  | (go_at_call 86;exact Calls.regrown_of (D3.out _)))))
 refine wpQuiet_nil ?_
 intro wx hw'
 obtain ⟨⟨dq,oq⟩,hw''⟩:=hw'
 have hd:Below w.heap.size w wx:=by rw [hw''];exact below_regrown w dq oq
 have d29:=cell_kept c29 hd
 clear hw'' e13 e15 e17 e18 e0 e1 D0 D1 D2 D3 D4
 rw [HL.out]
 have zl:(mkB (lineOf n0 n1 n2 x.bag.size n4)).size≤109:=by rw [mkB_size];exact hll
 have HO:=Lh (overL_eq (lineOf n0 n1 n2 x.bag.size n4))
 generalize lineOf n0 n1 n2 x.bag.size n4=ll at *
 cases ho:x.over with
 | true =>
  rw [ho] at d29 HLN
  clear z0 z1 z2 z3 z4 c29
  go_wp2
  go_ret
  exact ⟨by rw [HLN.out,← HO.out];rfl,hd⟩
 | false =>
  rw [ho] at d29 HLN
  clear z0 z1 z2 z3 z4 c29
  go_wp2
  go_ret
  exact ⟨by rw [HLN.out];rfl,hd⟩
end Go.Proofs.YtalnbgcdhcnjfaaGreatDoor
set_option maxRecDepth 100000
set_option maxHeartbeats 8000000
namespace Go.Proofs.YtalnbgcdhcnjfaaGreatDoor
open Go.ChangeShapes Go.WideShapes Go.ChangeAt Go.RowKit Go.Sort

/-- the words of the line -/
abbrev numsOf (a b c d e:Int):List Int:=[a,b,c,d,e]
def wordsOf (ns:List Int):List ByteArray:=ns.map fun n=>mkB (Lib.itoa n)
theorem line_join (a b c d e:Int):Lib.join ((wordsOf (numsOf a b c d e)).map (·.data.toList)) [32]=overL (lineOf a b c d e) false:=by
 unfold overL
 rw [if_neg (by decide)]
 simp [wordsOf,numsOf,lineOf,Lib.join,List.intercalate,mkB]
theorem line_join2 (a b c d e:Int):Lib.join ((wordsOf (numsOf a b c d e)++([⟨#[111,118,101,114]⟩]:List ByteArray)).map (·.data.toList)) [32]=overL (lineOf a b c d e) true:=by
 unfold overL
 rw [if_pos rfl]
 simp [wordsOf,numsOf,lineOf,Lib.join,List.intercalate,mkB]
def numCells (ns:List Int):List Value:=ns.map fun n=>.int .i64 n
theorem num_at {ns:List Int} {k:Nat} (h:k < ns.length):(numCells ns)[k]?=some (.int .i64 (ns.getD k 0)):=by
 unfold numCells
 rw [List.getElem?_map,List.getElem?_eq_getElem h,List.getD_eq_getElem?_getD,List.getElem?_eq_getElem h]
 rfl
theorem words_next {ns:List Int} {k:Nat} (h:k < ns.length):(wordsOf ns).take (k+1)=(wordsOf ns).take k++[mkB (Lib.itoa (ns.getD k 0))]:=by
 have h2:k < (wordsOf ns).length:=by unfold wordsOf;rw [List.length_map];exact h
 have e:(wordsOf ns)[k]=mkB (Lib.itoa (ns.getD k 0)):=by
  simp only [wordsOf,List.getElem_map,List.getD_eq_getElem?_getD,List.getElem?_eq_getElem h,Option.getD_some]
 rw [List.take_succ_eq_append_getElem h2,e]
theorem row_tx {w:World} {base g c n:Nat} {xs:List ByteArray} (h:w.ownsRow base 9 1 (.slice (some ⟨g,0,none⟩) n c) n (xs.flatMap Tx.enc)) (hn:n=xs.length):(∀ (j:Nat) x,xs[j]?=some x→w.cell? ⟨g,0+j,none⟩=some (.string x))∧n≤c∧g < w.heap.size:=by
 subst hn
 refine ⟨fun j x hj=>?_,?_,(h.lt g rfl).2⟩
 ·have hl:j < xs.length:=by
   rcases Nat.lt_or_ge j xs.length with h1 | h1
   ·exact h1
   ·rw [List.getElem?_eq_none h1] at hj;cases hj
  obtain ⟨b,o,e,hc⟩:=(own_slice Tx.enc_len h rfl).open hl
  cases e
  have:=words_cell hc hl
  rw [List.getD_eq_getElem?_getD,hj] at this
  exact this
 ·rcases h.2 with ⟨e,h0⟩ | ⟨g2,c2,cur,e,_,_,hc,_⟩
  ·cases e
  ·simp only [Value.slice.injEq] at e
   rw [e.2.2]
   exact hc
theorem scoreLine_any (x:Gam) (p:GaA) (w:World) (ha:x.At p w) (hk:x.ok=true) (ht:Tab w) :
  Calls Tryz.prog 52 #[.agg (gcells x p).toArray] w (StrPost w x.lineL):=by
 obtain ⟨i0,hi0,hi1,hi2,hi3⟩:=info_parts infoTx
 have hf:=Gam.fine hk
 have hbg:=(bag_parts hf.bag).2
 have hbs:x.bag.size≤120:=by simpa using hbg
 have s0:=hf.score 0 (by omega)
 have s1:=hf.score 1 (by omega)
 have hp:=hf.player
 have hz:=hf.zeros
 have HLN:Hid (x.lineL=overL (lineOf (x.scores.getD 0 0) (x.scores.getD 1 0) x.player x.bag.size x.zeros) x.over):=Lh rfl
 have hb0:Below w.heap.size w (w.alloc (.cells (gcells x p).toArray 51)):=(Below.refl _ _).alloc (Nat.le_refl _) _
 have HG0:=Lh (GAt.new w x p 51 ha)
 have HTB:=Lh (ht.kept hb0)
 clear ha hk ht hbg
 obtain ⟨cs,hcs⟩:∃ cs,cs=gcells x p:=⟨_,rfl⟩
 rw [← hcs]
 rw [← hcs] at HG0 hb0 HTB
 clear hcs
 go_enter Tryz.func52,Tryz.ntmps52
 go_upto_region 1 with fail
 generalize w.alloc (.cells cs.toArray 51)=w1 at *
 have hx:Below w1.heap.size w1 (w1.alloc (.cells #[] 9)):=(Below.refl _ _).alloc (Nat.le_refl _) _
 have HO:=Lh (own_empty w1 9)
 have hlt1:w1.heap.size < (w1.alloc (.cells #[] 9)).heap.size:=by simp
 go_upto_region 2 with fail
 have hd2:=hx.trans ((Below.refl w1.heap.size (w1.alloc (.cells #[] 9))).drew)
 replace HO:=Lh (own_below HO.out (Below.refl _ _).drew)
 replace hlt1:w1.heap.size < (w1.alloc (.cells #[] 9)).drew.heap.size:=hlt1
 have HG:=Lh (HG0.out.kept hd2)
 obtain ⟨sb,so,hsa,t0⟩:=num_cell HG.out.at_.2.2.1 (show 0 < x.scores.length by have:=hf.scores;omega)
 obtain ⟨sb1,so1,hsb,t1⟩:=num_cell HG.out.at_.2.2.1 (show 1 < x.scores.length by have:=hf.scores;omega)
 rw [hsa] at hsb
 cases hsb
 rw [Nat.add_zero] at t0
 have c15:=HG.out.cell (i:=15) rfl
 rw [hsa,hf.scores] at c15
 have c13:=HG.out.cell (i:=13) rfl
 have c17:=HG.out.cell (i:=17) rfl
 have c18:=HG.out.cell (i:=18) rfl
 clear hsa hx hf
 generalize x.scores.getD 0 0=n0 at *
 generalize x.scores.getD 1 0=n1 at *
 refine wp_region_held_drew (S:=fun w'=>w'.cell? ⟨w.heap.size,15,none⟩=some (.slice (some ⟨sb,so,none⟩) 2 p.scores.c)∧w'.cell? ⟨sb,so,none⟩=some (.int .i64 n0)∧w'.cell? ⟨sb,so+1,none⟩=some (.int .i64 n1)∧w'.cell? ⟨w.heap.size,13,none⟩=some (.string x.bag)∧w'.cell? ⟨w.heap.size,17,none⟩=some (.int .i64 x.player)∧w'.cell? ⟨w.heap.size,18,none⟩=some (.int .i64 x.zeros)) (by kernel_rfl) ⟨c15,t0,t1,c13,c17,c18⟩ (fun hHeld=>?_)
 generalize (w1.alloc (.cells #[] 9)).drew=wd at *
 clear c15 t0 t1 c13 c17 c18
 refine slotA 0 7 (.pointer (some ⟨w.heap.size,15,none⟩)) ?_
 simp only [S3]
 refine slotA 1 8 (.slice (some ⟨sb,so,none⟩) 2 p.scores.c) ?_ (hy:=Or.inl ⟨by rfl,fun w' hS=>by have c9:=hS.1;go_simp⟩)
 simp only [S3]
 refine slotA 2 9 (.pointer (some ⟨sb,so,none⟩)) ?_
 simp only [S3]
 refine slotA 3 10 (.int .i64 n0) ?_ (hy:=Or.inl ⟨by rfl,fun w' hS=>by have c9:=hS.2.1;go_simp⟩)
 simp only [S3]
 refine slotA 4 11 (.pointer (some ⟨w.heap.size,15,none⟩)) ?_
 simp only [S3]
 refine slotA 5 12 (.slice (some ⟨sb,so,none⟩) 2 p.scores.c) ?_ (hy:=Or.inl ⟨by rfl,fun w' hS=>by have c9:=hS.1;go_simp⟩)
 simp only [S3]
 refine slotA 6 13 (.pointer (some ⟨sb,so+1,none⟩)) ?_
 simp only [S3]
 refine slotA 7 14 (.int .i64 n1) ?_ (hy:=Or.inl ⟨by rfl,fun w' hS=>by have c9:=hS.2.2.1;go_simp⟩)
 simp only [S3]
 refine slotA 8 15 (.pointer (some ⟨w.heap.size,17,none⟩)) ?_
 simp only [S3]
 refine slotA 9 16 (.int .i64 x.player) ?_ (hy:=Or.inl ⟨by rfl,fun w' hS=>by have c9:=hS.2.2.2.2.1;go_simp⟩)
 simp only [S3]
 refine slotA 10 17 (.pointer (some ⟨w.heap.size,13,none⟩)) ?_
 simp only [S3]
 refine slotA 11 18 (.string x.bag) ?_ (hy:=Or.inl ⟨by rfl,fun w' hS=>by have c9:=hS.2.2.2.1;go_simp⟩)
 simp only [S3]
 refine slotA 12 19 (.int .i64 x.bag.size) ?_
 simp only [S3]
 refine slotA 13 20 (.pointer (some ⟨w.heap.size,18,none⟩)) ?_
 simp only [S3]
 refine slotA 14 21 (.int .i64 x.zeros) ?_ (hy:=Or.inl ⟨by rfl,fun w' hS=>by have c9:=hS.2.2.2.2.2;go_simp⟩)
 simp only [S3]
 refine slotA 17 24 (.int .i64 0) ?_
 simp only [S3]
 refine wpAnyH_ready (rs:=[15]) (by kernel_rfl) (by simp) ?_
 refine AllReadyH.cons (o:=_) rfl (fun K hK=>?_) AllReadyH.nil
 go_simp
 have hd:Below wd.heap.size wd (wd.alloc (.cells (numCells (numsOf n0 n1 x.player x.bag.size x.zeros)).toArray 2)):=(Below.refl _ _).alloc (Nat.le_refl _) _
 have V0:=Lh (VarAt.new wd 2 (numCells (numsOf n0 n1 x.player x.bag.size x.zeros)))
 have hHeld2:=(⟨cell_kept hHeld.1 hd,cell_kept hHeld.2.1 hd,cell_kept hHeld.2.2.1 hd,cell_kept hHeld.2.2.2.1 hd,cell_kept hHeld.2.2.2.2.1 hd,cell_kept hHeld.2.2.2.2.2 hd⟩:_∧_∧_∧_∧_∧_)
 replace HO:=Lh (own_below HO.out hd)
 have hb:=hd2.trans (hd.mono hd2.size)
 replace HG:=Lh (HG.out.kept hd)
 clear hd hd2 hHeld
 change (wd.alloc (.cells (numCells (numsOf n0 n1 x.player x.bag.size x.zeros)).toArray 2)).cell? _=_∧_ at hHeld2
 generalize wd.heap.size=gn at *
 refine hK.out _ _ hHeld2 (fun hHeld=>?_)
 clear hK K hHeld2
 refine slotA 16 23 (.int .i64 5) ?_
 simp only [S3]
 refine wpAnyH_done (by kernel_rfl) ?_ _
 clear hHeld
 change Exit.then _ _ _ _ (wd.alloc (.cells (numCells (numsOf n0 n1 x.player x.bag.size x.zeros)).toArray 2))
 have hgw:w1.heap.size≠gn:=by have:=HO.out.lt w1.heap.size rfl;omega
 generalize wd.alloc (.cells (numCells (numsOf n0 n1 x.player x.bag.size x.zeros)).toArray 2)=w5 at *
 have HLJ:=Lh (line_join n0 n1 x.player x.bag.size x.zeros)
 have HLJ2:=Lh (line_join2 n0 n1 x.player x.bag.size x.zeros)
 have hll:=lineOf_len (a:=n0) (b:=n1) (c:=x.player) (d:=x.bag.size) (e:=x.zeros) (by omega) (by omega) (by omega) (by omega) (by omega)
 generalize lineOf n0 n1 x.player x.bag.size x.zeros=ll at *
 obtain ⟨ns,hns⟩:∃ ns,ns=numsOf n0 n1 x.player x.bag.size x.zeros:=⟨_,rfl⟩
 have hnl:ns.length=5:=by rw [hns];rfl
 have HDE:Hid (∀ k,k < 5→∀ W,Tab W→Calls Tryz.prog 87 #[.int .i64 (ns.getD k 0)] W (StrPost W (Lib.itoa (ns.getD k 0)))):=Lh (fun k hk W h=>by
  have hr:-9223372036854775808≤ns.getD k 0∧ns.getD k 0≤9223372036854775807:=by
   rw [hns]
   match k,hk with
   | 0,_=>exact ⟨by show _≤n0;omega,by show n0≤_;omega⟩
   | 1,_=>exact ⟨by show _≤n1;omega,by show n1≤_;omega⟩
   | 2,_=>exact ⟨by show _≤x.player;omega,by show x.player≤_;omega⟩
   | 3,_=>exact ⟨by show _≤(x.bag.size:Int);omega,by show (x.bag.size:Int)≤_;omega⟩
   | 4,_=>exact ⟨by show _≤x.zeros;omega,by show x.zeros≤_;omega⟩
  exact Decimal_any _ hr.1 hr.2 W h)
 rw [← hns] at V0 HLJ HLJ2
 clear hns s0 s1 hp hz hbs
 have HJN:Hid (∀ (xs:List ByteArray) (g1 cap n:Nat) (W:World),xs.length=n→n≤6→W.ownsRow w1.heap.size 9 1 (.slice (some ⟨g1,0,none⟩) n cap) n (xs.flatMap Tx.enc)→(Lib.join (xs.map (·.data.toList)) [32]).length≤140737488355328→Calls Tryz.prog 88 #[.slice (some ⟨g1,0,none⟩) n cap] W (StrPost W (Lib.join (xs.map (·.data.toList)) [32]))):=Lh (fun xs g1 cap n W hn h6 ho hj=>by
  subst hn
  obtain ⟨h1,h2,h3⟩:=row_tx ho rfl
  exact joined_any xs g1 cap W h1 h3 (by omega) h2 hj)
 have HWL:Hid ((wordsOf ns).length=5):=Lh (by unfold wordsOf;rw [List.length_map];exact hnl)
 unfold StrPost at HDE HJN
 go_upto_region 3 with fail
 go_loopw [3,5,24] (fun ov _ kv wr=>∃ (k g1 cap:Nat),k≤5∧kv=.int .i64 k∧ov=.slice (some ⟨g1,0,none⟩) k cap∧g1≠gn∧Hid (wr.ownsRow w1.heap.size 9 1 (.slice (some ⟨g1,0,none⟩) k cap) k (((wordsOf ns).take k).flatMap Tx.enc))∧Hid (VarAt wr gn 2 (numCells ns))∧Below w1.heap.size w1 wr) (fun _ _ kv _=>5 - (intOf kv).toNat)
 case atStart=>exact ⟨0,w1.heap.size,0,Nat.zero_le _,rfl,rfl,hgw,HO,V0,hb⟩
 case round =>
  clear HO V0 hb hgw
  obtain ⟨k,g1,cap,hk,rfl,rfl,hgn,HR,VN,hb⟩:=hrel
  by_cases hlt:k < 5
  ·have hc0:wr.cell? ⟨gn,k,none⟩=some (.int .i64 (ns.getD k 0)):=VN.out.cell (num_at (by omega))
   have HDk:=Lh (HDE.out k hlt)
   have HNX:=Lh (words_next (ns:=ns) (k:=k) (by omega))
   clear HDE HJN HWL HLJ HLJ2 HLN
   generalize ns.getD k 0=nk at *
   go_wp2_with fail
   refine (HDk.out _ (HTB.out.kept hb)).mono ?_
   rintro e wa ⟨rfl,hd⟩
   clear hc0 HDk
   replace hb:=hb.trans (hd.mono hb.size)
   replace HR:=Lh (own_below HR.out hd)
   replace VN:=Lh (VN.out.kept hd)
   clear hd
   generalize mkB (Lib.itoa nk)=tx at *
   have hx:Below wa.heap.size wa (wa.alloc (.cells #[.string tx] 9)):=(Below.refl _ _).alloc (Nat.le_refl _) _
   have KN:=Lh (new_tx wa tx 9)
   have hz2:=hb.size
   replace HR:=Lh (own_below HR.out hx)
   replace VN:=Lh (VN.out.kept hx)
   replace hb:=hb.trans (hx.mono hb.size)
   clear hx
   go_wp2_with (at_builtin;go_must (refine wpList_append_lies _ rfl (.tmp 28) (.tmp 31) 25 rfl w1.heap.size 9 i0 _ 1 16 Tryz.underlying25 hi0 hi1 hi2 hi3 rfl (by decide) _ k (((wordsOf ns).take k).flatMap Tx.enc) (by rfl) HR.out ⟨wa.heap.size,0,none⟩ 1 1 (Tx.enc tx) (by rfl) rfl KN.out (tx_one tx) (by decide) ?c1 ?c2 ?c3 _ rfl ?_))
   case c1=>unfold maxLen;omega
   case c2=>omega
   case c3=>(first | omega | (simp only [World.size_alloc];omega))
   intro g7 cap7 w7 hown hgr hwh hlt7
   have hgs:=VN.out.lt
   have hg7:g7≠gn:=by
    rcases hwh with h | h
    ·have e9:g1=g7:=Option.some.inj h
     omega
    ·try simp only [World.size_alloc] at h hgs
     omega
   have VN7:=Lh (VN.out.grown hgr (by intro e;exact hgn (Option.some.inj e).symm))
   have hb7:=hb.grown hgr hb.size (fun q e=>by have:=(HR.out.lt q e).1;omega)
   have HR7:Hid (w7.ownsRow w1.heap.size 9 1 (.slice (some ⟨g7,0,none⟩) (k+1) cap7) (k+1) (((wordsOf ns).take (k+1)).flatMap Tx.enc)):=Lh (by rw [HNX.out,← flat_snoc];exact hown)
   clear hown hgr hwh hlt7 KN hz2 HR VN hb hgs HNX
   go_wp2
   go_roundw
   case rel=>exact ⟨k+1,g7,cap7,by omega,by go_num,rfl,hg7,HR7,VN7,hb7⟩
   case measure=>simp [intOf];omega
  ·obtain rfl:k=5:=by omega
   clear VN HDE hlt
   have HR5:Hid (wr.ownsRow w1.heap.size 9 1 (.slice (some ⟨g1,0,none⟩) 5 cap) 5 ((wordsOf ns).flatMap Tx.enc)):=Lh (by have:=HR.out;rw [List.take_of_length_le (by rw [HWL.out];exact Nat.le_refl _)] at this;exact this)
   clear HR
   have c29:=cell_kept (HG0.out.cell (i:=29) rfl) hb
   cases ho:x.over with
   | false =>
    rw [ho] at c29 HLN
    clear ho
    go_wp2_with fail
    refine (HJN.out _ _ _ _ _ HWL.out (by decide) HR5.out (by rw [HLJ.out];unfold overL;rw [if_neg (by decide)];omega)).mono ?_
    rintro e wz ⟨rfl,hd⟩
    rw [HLJ.out]
    have hbz:=hb0.trans ((hb.trans (hd.mono hb.size)).mono hb0.size)
    clear hd hb c29 HR5 HJN HWL HG HG0 HTB
    go_wp2
    go_ret
    exact ⟨by rw [HLN.out];rfl,hbz⟩
   | true =>
    rw [ho] at c29 HLN
    clear ho
    have hx:Below wr.heap.size wr (wr.alloc (.cells #[.string ⟨#[111,118,101,114]⟩] 9)):=(Below.refl _ _).alloc (Nat.le_refl _) _
    have KN:=Lh (new_tx wr ⟨#[111,118,101,114]⟩ 9)
    have hz2:=hb.size
    have HRx:=Lh (own_below HR5.out hx)
    have hbx:=hb.trans (hx.mono hb.size)
    clear hx HR5 hb
    go_wp2_with (at_builtin;go_must (refine wpList_append_lies _ rfl (.tmp 36) (.tmp 37) 25 rfl w1.heap.size 9 i0 _ 1 16 Tryz.underlying25 hi0 hi1 hi2 hi3 rfl (by decide) _ 5 ((wordsOf ns).flatMap Tx.enc) (by rfl) HRx.out ⟨wr.heap.size,0,none⟩ 1 1 (Tx.enc ⟨#[111,118,101,114]⟩) (by rfl) rfl KN.out (tx_one _) (by decide) ?c1 ?c2 ?c3 _ rfl ?_))
    case c1=>unfold maxLen;omega
    case c2=>omega
    case c3=>(first | omega | (simp only [World.size_alloc];omega))
    intro g7 cap7 w7 hown hgr hwh hlt7
    have hb7:=hbx.grown hgr hbx.size (fun q e=>by have:=(HRx.out.lt q e).1;omega)
    have HR7:Hid (w7.ownsRow w1.heap.size 9 1 (.slice (some ⟨g7,0,none⟩) 6 cap7) 6 ((wordsOf ns++([⟨#[111,118,101,114]⟩]:List ByteArray)).flatMap Tx.enc)):=Lh (by rw [← flat_snoc];exact hown)
    clear hown hgr hwh hlt7 KN hz2 HRx hbx c29
    go_wp2_with fail
    refine (HJN.out _ _ _ _ _ (by rw [List.length_append,HWL.out];rfl) (by decide) HR7.out (by rw [HLJ2.out];unfold overL;rw [if_pos rfl,List.length_append];simp only [List.length_cons,List.length_nil];omega)).mono ?_
    rintro e wz ⟨rfl,hd⟩
    rw [HLJ2.out]
    have hbz:=hb0.trans ((hb7.trans (hd.mono hb7.size)).mono hb0.size)
    clear hd hb7 HR7 HJN HWL HG HG0 HTB
    go_wp2
    go_ret
    exact ⟨by rw [HLN.out];rfl,hbz⟩
theorem implScoreLine_any (x:Gam) (p:GaA) (w:World) (ha:x.At p w) (hf:x.fit) (htz:x.setup.tiles.letters.size≤1048576) (hwz:x.last.play.word.size≤1048576) (hE:CEnv w) (hL:EnvL w) (ht:Tab w) :
  Calls Tryz.prog 18 #[.agg (gcells x p).toArray] w (StrPost w x.scoreL):=by
 have hb:Below w.heap.size w (w.alloc (.cells (gcells x p).toArray 51)):=(Below.refl _ _).alloc (Nat.le_refl _) _
 have VI:=Lh (VarAt.new w 51 (gcells x p))
 have HA:=Lh (Gam.At.kept ha hb)
 have HE:=Lh (hE.kept hb)
 have HL:=Lh (hL.kept hb)
 have HT:=Lh (ht.kept hb)
 have HSZ:=Lh (size_game x p)
 have HVG:Hid (∀ W,x.At p W→CEnv W→EnvL W→Calls Tryz.prog 15 #[.agg (gcells x p).toArray] W fun e w'=>e=.returned (.bool x.ok)∧Below W.heap.size W w'):=Lh (fun W h h2 h3=>implValidGame_any x p W h hf htz hwz h2 h3)
 have HSL:Hid (x.ok=true→∀ W,x.At p W→Tab W→Calls Tryz.prog 52 #[.agg (gcells x p).toArray] W (StrPost W x.lineL)):=Lh (fun hk W h h2=>scoreLine_any x p W h hk h2)
 have HS0:Hid (x.ok=false→x.scoreL=[]):=Lh (fun h=>by unfold Gam.scoreL;rw [h];rfl)
 have HS1:Hid (x.ok=true→x.scoreL=x.lineL):=Lh (fun h=>by unfold Gam.scoreL;rw [h];rfl)
 clear ha hf htz hwz hE hL ht
 obtain ⟨gc,hgc⟩:∃ gc,gc=gcells x p:=⟨_,rfl⟩
 rw [← hgc]
 rw [← hgc] at VI hb HA HE HL HT HSZ HVG HSL
 clear hgc
 unfold StrPost at *
 go_enter Tryz.func18,Tryz.ntmps18
 go_upto_region 1 with fail
 generalize w.alloc (.cells gc.toArray 51)=w1 at *
 have RG:=VI.out.range
 refine wp_region_list ?_
 refine wpList_load_mid rfl 51 _ rfl w.heap.size 0 rfl gc _ RG Tryz.underlying51 rfl HSZ.out ?_
 clear RG
 go_wp2_with fail
 refine (HVG.out _ HA.out HE.out HL.out).mono ?_
 rintro e w2 ⟨rfl,hd⟩
 replace HA:=Lh (Gam.At.kept HA.out hd)
 replace hb:=hb.trans (hd.mono hb.size)
 replace VI:=Lh (VI.out.kept hd)
 replace HT:=Lh (HT.out.kept hd)
 clear hd
 clear HVG HE HL
 cases hk:x.ok with
 | false =>
  have HW:=Lh (HS0.out hk)
  clear hk HSL HS0 HS1 HA HT VI HSZ
  go_wp2
  go_ret
  exact ⟨by rw [HW.out];rfl,hb⟩
 | true =>
  have HW:=Lh (HS1.out hk)
  have HSL:=Lh (HSL.out hk)
  clear hk HS0 HS1
  go_upto_region 3 with fail
  have RG:=VI.out.range
  refine wp_region_list ?_
  refine wpList_load_mid rfl 51 _ rfl w.heap.size 0 rfl gc _ RG Tryz.underlying51 rfl HSZ.out ?_
  clear RG
  go_wp2_with fail
  refine (HSL.out _ HA.out HT.out).mono ?_
  rintro e w3 ⟨rfl,hd⟩
  replace hb:=hb.trans (hd.mono hb.size)
  clear hd HSL HA HT VI HSZ
  go_wp2
  go_ret
  exact ⟨by rw [HW.out];rfl,hb⟩
theorem specScoreLine_any (x:Gam) (p:GaA) (w:World) (ha:x.At p w) (hf:x.fit) :
  Calls Tryz.prog 17 #[.agg (gcells x p).toArray] w (StrPost w x.scoreL):=by
 have HG:=Lh (GAt.new w x p 51 ha)
 have hb:Below w.heap.size w (w.alloc (.cells (gcells x p).toArray 51)):=(Below.refl _ _).alloc (Nat.le_refl _) _
 have HOK:Hid (∀ W,GAt W w.heap.size x p→Calls Tryz.prog 13 #[.pointer (some ⟨w.heap.size,0,none⟩)] W fun e w'=>e=.returned (.bool x.ok)∧Below W.heap.size W w'):=Lh (fun W h=>l18Ok_any x p w.heap.size W h hf)
 have HSL:Hid (x.ok=true→∀ W,GAt W w.heap.size x p→Calls Tryz.prog 51 #[.pointer (some ⟨w.heap.size,0,none⟩)] W (StrPost W x.lineL)):=Lh (fun hk W h=>l27Line_any x p w.heap.size W h hk)
 have HS0:Hid (x.ok=false→x.scoreL=[]):=Lh (fun h=>by unfold Gam.scoreL;rw [h];rfl)
 have HS1:Hid (x.ok=true→x.scoreL=x.lineL):=Lh (fun h=>by unfold Gam.scoreL;rw [h];rfl)
 clear ha hf
 obtain ⟨cs,hcs⟩:∃ cs,cs=gcells x p:=⟨_,rfl⟩
 rw [← hcs]
 rw [← hcs] at HG hb
 clear hcs
 unfold StrPost at *
 go_enter Tryz.func17,Tryz.ntmps17
 go_wp2_with fail
 refine (HOK.out _ HG.out).mono ?_
 rintro e w2 ⟨rfl,hd⟩
 replace hb:=hb.trans (hd.mono hb.size)
 replace HG:=Lh (HG.out.kept hd)
 clear hd
 clear HOK
 cases hk:x.ok with
 | false =>
  have HW:=Lh (HS0.out hk)
  clear hk HSL HS0 HS1 HG
  go_wp2
  go_ret
  exact ⟨by rw [HW.out];rfl,hb⟩
 | true =>
  have HW:=Lh (HS1.out hk)
  have HSL:=Lh (HSL.out hk)
  clear hk HS0 HS1
  go_wp2_with fail
  refine (HSL.out _ HG.out).mono ?_
  rintro e w3 ⟨rfl,hd⟩
  replace hb:=hb.trans (hd.mono hb.size)
  clear hd HSL HG
  go_wp2
  go_ret
  exact ⟨by rw [HW.out];rfl,hb⟩
end Go.Proofs.YtalnbgcdhcnjfaaGreatDoor
