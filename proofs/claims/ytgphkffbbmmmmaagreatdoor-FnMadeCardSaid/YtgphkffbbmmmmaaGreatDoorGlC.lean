/- Contracts: the lines of a game: the reference. A game that can be read. · Contracts: the line of scores of a game: the program. A valid game; Go's table of powers o · Contracts: the lines of a game: the program. Go's tables of unicode, unicode/utf8 and strc -/
import Derived.Test.YtgphkffbbmmmmaaGreatDoorSamGz
import Derived.Test.YtgphkffbbmmmmaaGreatDoorGsA
import Derived.Test.YtgphkffbbmmmmaaGreatDoorDoD
import Derived.Test.YtgphkffbbmmmmaaGreatDoorGpG
import Derived.Test.YtgphkffbbmmmmaaGreatDoorGmN
namespace Go.Proofs.YtgphkffbbmmmmaaGreatDoor
open Go.ChangeShapes Go.WideShapes Go.ChangeAt Go.RowKit Go.Sort

theorem new_three (w:World) (a b c:ByteArray) (e:TypeId):∀ j u,([a,b,c].flatMap Tx.enc)[j]?=some u→(w.alloc (.cells #[.string a,.string b,.string c] e)).cell? ((⟨w.heap.size,0,none⟩:Addr).add j)=some u:=by
 intro j u hu
 have h:=VarAt.new w e [.string a,.string b,.string c]
 have hj:([.string a,.string b,.string c]:List Value)[j]?=some u:=hu
 rw [Go.Addr.add_lit,Nat.zero_add]
 exact h.cell hj
theorem three_one (a b c:ByteArray):∀ u∈[a,b,c].flatMap Tx.enc,u.oneCell'=true:=by
 intro u hu
 obtain ⟨y,_,hy⟩:=List.mem_flatMap.1 hu
 exact tx_one y u hy
/-- the lines of a game, and a code -/
def LinesPost (r:List ByteArray × Int) (w:World) (e:Ending) (w':World):Prop :=
 ∃ q:Rwa,e=.returned (.tuple #[.slice q.a r.1.length q.c,.int .i64 r.2])∧TZ w' w.heap.size q.a q.c r.1∧Below w.heap.size w w'
theorem lines_none {r:List ByteArray × Int} {w w':World} {c:Int} {e:Ending} (h:r=([],c)) (he:e=.returned (.tuple #[.slice none 0 0,.int .i64 c])) (hb:Below w.heap.size w w'):LinesPost r w e w':=by
 subst h
 exact ⟨⟨none,0⟩,he,.inl rfl,hb⟩
theorem lines_some {r:List ByteArray × Int} {w w':World} {xs:List ByteArray} {g cap base:Nat} {e:Ending} (h:r=(xs,0)) (he:e=.returned (.tuple #[.slice (some ⟨g,0,none⟩) xs.length cap,.int .i64 0])) (ho:w'.ownsRow base 9 1 (.slice (some ⟨g,0,none⟩) xs.length cap) xs.length (xs.flatMap Tx.enc)) (hbs:w.heap.size≤base) (hb:Below w.heap.size w w'):LinesPost r w e w':=by
 subst h
 exact ⟨⟨some ⟨g,0,none⟩,cap⟩,he,.inr (own_mono ho hbs),hb⟩
end Go.Proofs.YtgphkffbbmmmmaaGreatDoor
set_option maxRecDepth 100000
set_option maxHeartbeats 8000000
namespace Go.Proofs.YtgphkffbbmmmmaaGreatDoor
open Go.ChangeShapes Go.WideShapes Go.ChangeAt Go.RowKit Go.Sort

/-- the words of the line -/
abbrev numsOf (a b c d e:Int):List Int:=[a,b,c,d,e]
def wordsOf (ns:List Int):List ByteArray:=ns.map fun n=>mkB (Lib.itoa n)
theorem line_join (a b c d e:Int):Lib.join ((wordsOf (numsOf a b c d e)).map (·.data.toList)) [32]=overL (lineOf a b c d e) false:=by
 unfold overL
 rw [if_neg (by decide)]
 simp [wordsOf,numsOf,lineOf,Lib.join,List.intercalate,mkB]
theorem line_join2 (a b c d e:Int):Lib.join ((wordsOf (numsOf a b c d e)++([⟨#[111,118,101,114]⟩]:List ByteArray)).map (·.data.toList)) [32]=overL (lineOf a b c d e) true:=by
 unfold overL
 rw [if_pos rfl]
 simp [wordsOf,numsOf,lineOf,Lib.join,List.intercalate,mkB]
def numCells (ns:List Int):List Value:=ns.map fun n=>.int .i64 n
theorem num_at {ns:List Int} {k:Nat} (h:k < ns.length):(numCells ns)[k]?=some (.int .i64 (ns.getD k 0)):=by
 unfold numCells
 rw [List.getElem?_map,List.getElem?_eq_getElem h,List.getD_eq_getElem?_getD,List.getElem?_eq_getElem h]
 rfl
theorem words_next {ns:List Int} {k:Nat} (h:k < ns.length):(wordsOf ns).take (k+1)=(wordsOf ns).take k++[mkB (Lib.itoa (ns.getD k 0))]:=by
 have h2:k < (wordsOf ns).length:=by unfold wordsOf;rw [List.length_map];exact h
 have e:(wordsOf ns)[k]=mkB (Lib.itoa (ns.getD k 0)):=by
  simp only [wordsOf,List.getElem_map,List.getD_eq_getElem?_getD,List.getElem?_eq_getElem h,Option.getD_some]
 rw [List.take_succ_eq_append_getElem h2,e]
theorem row_tx {w:World} {base g c n:Nat} {xs:List ByteArray} (h:w.ownsRow base 9 1 (.slice (some ⟨g,0,none⟩) n c) n (xs.flatMap Tx.enc)) (hn:n=xs.length):(∀ (j:Nat) x,xs[j]?=some x→w.cell? ⟨g,0+j,none⟩=some (.string x))∧n≤c∧g < w.heap.size:=by
 subst hn
 refine ⟨fun j x hj=>?_,?_,(h.lt g rfl).2⟩
 ·have hl:j < xs.length:=by
   rcases Nat.lt_or_ge j xs.length with h1 | h1
   ·exact h1
   ·rw [List.getElem?_eq_none h1] at hj;cases hj
  obtain ⟨b,o,e,hc⟩:=(own_slice Tx.enc_len h rfl).open hl
  cases e
  have:=words_cell hc hl
  rw [List.getD_eq_getElem?_getD,hj] at this
  exact this
 ·rcases h.2 with ⟨e,h0⟩ | ⟨g2,c2,cur,e,_,_,hc,_⟩
  ·cases e
  ·simp only [Value.slice.injEq] at e
   rw [e.2.2]
   exact hc
theorem scoreLine_any (x:Gam) (p:GaA) (w:World) (ha:x.At p w) (hk:x.ok=true) (ht:Tab w) :
  Calls Tryz.prog 48 #[.agg (gcells x p).toArray] w (StrPost w x.lineL):=by
 obtain ⟨i0,hi0,hi1,hi2,hi3⟩:=info_parts infoTx
 have hf:=Gam.fine hk
 have hbg:=(bag_parts hf.bag).2
 have hbs:x.bag.size≤120:=by simpa using hbg
 have s0:=hf.score 0 (by omega)
 have s1:=hf.score 1 (by omega)
 have hp:=hf.player
 have hz:=hf.zeros
 have HLN:Hid (x.lineL=overL (lineOf (x.scores.getD 0 0) (x.scores.getD 1 0) x.player x.bag.size x.zeros) x.over):=Lh rfl
 have hb0:Below w.heap.size w (w.alloc (.cells (gcells x p).toArray 37)):=(Below.refl _ _).alloc (Nat.le_refl _) _
 have HG0:=Lh (GAt.new w x p 37 ha)
 have HTB:=Lh (ht.kept hb0)
 clear ha hk ht hbg
 obtain ⟨cs,hcs⟩:∃ cs,cs=gcells x p:=⟨_,rfl⟩
 rw [← hcs]
 rw [← hcs] at HG0 hb0 HTB
 clear hcs
 go_enter Tryz.func48,Tryz.ntmps48
 go_upto_region 1 with fail
 generalize w.alloc (.cells cs.toArray 37)=w1 at *
 have hx:Below w1.heap.size w1 (w1.alloc (.cells #[] 9)):=(Below.refl _ _).alloc (Nat.le_refl _) _
 have HO:=Lh (own_empty w1 9)
 have hlt1:w1.heap.size < (w1.alloc (.cells #[] 9)).heap.size:=by simp
 go_upto_region 2 with fail
 have hd2:=hx.trans ((Below.refl w1.heap.size (w1.alloc (.cells #[] 9))).drew)
 replace HO:=Lh (own_below HO.out (Below.refl _ _).drew)
 replace hlt1:w1.heap.size < (w1.alloc (.cells #[] 9)).drew.heap.size:=hlt1
 have HG:=Lh (HG0.out.kept hd2)
 obtain ⟨sb,so,hsa,t0⟩:=num_cell HG.out.at_.2.2.1 (show 0 < x.scores.length by have:=hf.scores;omega)
 obtain ⟨sb1,so1,hsb,t1⟩:=num_cell HG.out.at_.2.2.1 (show 1 < x.scores.length by have:=hf.scores;omega)
 rw [hsa] at hsb
 cases hsb
 rw [Nat.add_zero] at t0
 have c15:=HG.out.cell (i:=15) rfl
 rw [hsa,hf.scores] at c15
 have c13:=HG.out.cell (i:=13) rfl
 have c17:=HG.out.cell (i:=17) rfl
 have c18:=HG.out.cell (i:=18) rfl
 clear hsa hx hf
 generalize x.scores.getD 0 0=n0 at *
 generalize x.scores.getD 1 0=n1 at *
 refine wp_region_held_drew (S:=fun w'=>w'.cell? ⟨w.heap.size,15,none⟩=some (.slice (some ⟨sb,so,none⟩) 2 p.scores.c)∧w'.cell? ⟨sb,so,none⟩=some (.int .i64 n0)∧w'.cell? ⟨sb,so+1,none⟩=some (.int .i64 n1)∧w'.cell? ⟨w.heap.size,13,none⟩=some (.string x.bag)∧w'.cell? ⟨w.heap.size,17,none⟩=some (.int .i64 x.player)∧w'.cell? ⟨w.heap.size,18,none⟩=some (.int .i64 x.zeros)) (by kernel_rfl) ⟨c15,t0,t1,c13,c17,c18⟩ (fun hHeld=>?_)
 generalize (w1.alloc (.cells #[] 9)).drew=wd at *
 clear c15 t0 t1 c13 c17 c18
 refine slotA 0 7 (.pointer (some ⟨w.heap.size,15,none⟩)) ?_
 simp only [S3]
 refine slotA 1 8 (.slice (some ⟨sb,so,none⟩) 2 p.scores.c) ?_ (hy:=Or.inl ⟨by rfl,fun w' hS=>by have c9:=hS.1;go_simp⟩)
 simp only [S3]
 refine slotA 2 9 (.pointer (some ⟨sb,so,none⟩)) ?_
 simp only [S3]
 refine slotA 3 10 (.int .i64 n0) ?_ (hy:=Or.inl ⟨by rfl,fun w' hS=>by have c9:=hS.2.1;go_simp⟩)
 simp only [S3]
 refine slotA 4 11 (.pointer (some ⟨w.heap.size,15,none⟩)) ?_
 simp only [S3]
 refine slotA 5 12 (.slice (some ⟨sb,so,none⟩) 2 p.scores.c) ?_ (hy:=Or.inl ⟨by rfl,fun w' hS=>by have c9:=hS.1;go_simp⟩)
 simp only [S3]
 refine slotA 6 13 (.pointer (some ⟨sb,so+1,none⟩)) ?_
 simp only [S3]
 refine slotA 7 14 (.int .i64 n1) ?_ (hy:=Or.inl ⟨by rfl,fun w' hS=>by have c9:=hS.2.2.1;go_simp⟩)
 simp only [S3]
 refine slotA 8 15 (.pointer (some ⟨w.heap.size,17,none⟩)) ?_
 simp only [S3]
 refine slotA 9 16 (.int .i64 x.player) ?_ (hy:=Or.inl ⟨by rfl,fun w' hS=>by have c9:=hS.2.2.2.2.1;go_simp⟩)
 simp only [S3]
 refine slotA 10 17 (.pointer (some ⟨w.heap.size,13,none⟩)) ?_
 simp only [S3]
 refine slotA 11 18 (.string x.bag) ?_ (hy:=Or.inl ⟨by rfl,fun w' hS=>by have c9:=hS.2.2.2.1;go_simp⟩)
 simp only [S3]
 refine slotA 12 19 (.int .i64 x.bag.size) ?_
 simp only [S3]
 refine slotA 13 20 (.pointer (some ⟨w.heap.size,18,none⟩)) ?_
 simp only [S3]
 refine slotA 14 21 (.int .i64 x.zeros) ?_ (hy:=Or.inl ⟨by rfl,fun w' hS=>by have c9:=hS.2.2.2.2.2;go_simp⟩)
 simp only [S3]
 refine slotA 17 24 (.int .i64 0) ?_
 simp only [S3]
 refine wpAnyH_ready (rs:=[15]) (by kernel_rfl) (by simp) ?_
 refine AllReadyH.cons (o:=_) rfl (fun K hK=>?_) AllReadyH.nil
 go_simp
 have hd:Below wd.heap.size wd (wd.alloc (.cells (numCells (numsOf n0 n1 x.player x.bag.size x.zeros)).toArray 2)):=(Below.refl _ _).alloc (Nat.le_refl _) _
 have V0:=Lh (VarAt.new wd 2 (numCells (numsOf n0 n1 x.player x.bag.size x.zeros)))
 have hHeld2:=(⟨cell_kept hHeld.1 hd,cell_kept hHeld.2.1 hd,cell_kept hHeld.2.2.1 hd,cell_kept hHeld.2.2.2.1 hd,cell_kept hHeld.2.2.2.2.1 hd,cell_kept hHeld.2.2.2.2.2 hd⟩:_∧_∧_∧_∧_∧_)
 replace HO:=Lh (own_below HO.out hd)
 have hb:=hd2.trans (hd.mono hd2.size)
 replace HG:=Lh (HG.out.kept hd)
 clear hd hd2 hHeld
 change (wd.alloc (.cells (numCells (numsOf n0 n1 x.player x.bag.size x.zeros)).toArray 2)).cell? _=_∧_ at hHeld2
 generalize wd.heap.size=gn at *
 refine hK.out _ _ hHeld2 (fun hHeld=>?_)
 clear hK K hHeld2
 refine slotA 16 23 (.int .i64 5) ?_
 simp only [S3]
 refine wpAnyH_done (by kernel_rfl) ?_ _
 clear hHeld
 change Exit.then _ _ _ _ (wd.alloc (.cells (numCells (numsOf n0 n1 x.player x.bag.size x.zeros)).toArray 2))
 have hgw:w1.heap.size≠gn:=by have:=HO.out.lt w1.heap.size rfl;omega
 generalize wd.alloc (.cells (numCells (numsOf n0 n1 x.player x.bag.size x.zeros)).toArray 2)=w5 at *
 have HLJ:=Lh (line_join n0 n1 x.player x.bag.size x.zeros)
 have HLJ2:=Lh (line_join2 n0 n1 x.player x.bag.size x.zeros)
 have hll:=lineOf_len (a:=n0) (b:=n1) (c:=x.player) (d:=x.bag.size) (e:=x.zeros) (by omega) (by omega) (by omega) (by omega) (by omega)
 generalize lineOf n0 n1 x.player x.bag.size x.zeros=ll at *
 obtain ⟨ns,hns⟩:∃ ns,ns=numsOf n0 n1 x.player x.bag.size x.zeros:=⟨_,rfl⟩
 have hnl:ns.length=5:=by rw [hns];rfl
 have HDE:Hid (∀ k,k < 5→∀ W,Tab W→Calls Tryz.prog 88 #[.int .i64 (ns.getD k 0)] W (StrPost W (Lib.itoa (ns.getD k 0)))):=Lh (fun k hk W h=>by
  have hr:-9223372036854775808≤ns.getD k 0∧ns.getD k 0≤9223372036854775807:=by
   rw [hns]
   match k,hk with
   | 0,_=>exact ⟨by show _≤n0;omega,by show n0≤_;omega⟩
   | 1,_=>exact ⟨by show _≤n1;omega,by show n1≤_;omega⟩
   | 2,_=>exact ⟨by show _≤x.player;omega,by show x.player≤_;omega⟩
   | 3,_=>exact ⟨by show _≤(x.bag.size:Int);omega,by show (x.bag.size:Int)≤_;omega⟩
   | 4,_=>exact ⟨by show _≤x.zeros;omega,by show x.zeros≤_;omega⟩
  exact Decimal_any _ hr.1 hr.2 W h)
 rw [← hns] at V0 HLJ HLJ2
 clear hns s0 s1 hp hz hbs
 have HJN:Hid (∀ (xs:List ByteArray) (g1 cap n:Nat) (W:World),xs.length=n→n≤6→W.ownsRow w1.heap.size 9 1 (.slice (some ⟨g1,0,none⟩) n cap) n (xs.flatMap Tx.enc)→(Lib.join (xs.map (·.data.toList)) [32]).length≤140737488355328→Calls Tryz.prog 89 #[.slice (some ⟨g1,0,none⟩) n cap] W (StrPost W (Lib.join (xs.map (·.data.toList)) [32]))):=Lh (fun xs g1 cap n W hn h6 ho hj=>by
  subst hn
  obtain ⟨h1,h2,h3⟩:=row_tx ho rfl
  exact joined_any xs g1 cap W h1 h3 (by omega) h2 hj)
 have HWL:Hid ((wordsOf ns).length=5):=Lh (by unfold wordsOf;rw [List.length_map];exact hnl)
 unfold StrPost at HDE HJN
 go_upto_region 3 with fail
 go_loopw [3,5,24] (fun ov _ kv wr=>∃ (k g1 cap:Nat),k≤5∧kv=.int .i64 k∧ov=.slice (some ⟨g1,0,none⟩) k cap∧g1≠gn∧Hid (wr.ownsRow w1.heap.size 9 1 (.slice (some ⟨g1,0,none⟩) k cap) k (((wordsOf ns).take k).flatMap Tx.enc))∧Hid (VarAt wr gn 2 (numCells ns))∧Below w1.heap.size w1 wr) (fun _ _ kv _=>5 - (intOf kv).toNat)
 case atStart=>exact ⟨0,w1.heap.size,0,Nat.zero_le _,rfl,rfl,hgw,HO,V0,hb⟩
 case round =>
  clear HO V0 hb hgw
  obtain ⟨k,g1,cap,hk,rfl,rfl,hgn,HR,VN,hb⟩:=hrel
  by_cases hlt:k < 5
  ·have hc0:wr.cell? ⟨gn,k,none⟩=some (.int .i64 (ns.getD k 0)):=VN.out.cell (num_at (by omega))
   have HDk:=Lh (HDE.out k hlt)
   have HNX:=Lh (words_next (ns:=ns) (k:=k) (by omega))
   clear HDE HJN HWL HLJ HLJ2 HLN
   generalize ns.getD k 0=nk at *
   go_wp2_with fail
   refine (HDk.out _ (HTB.out.kept hb)).mono ?_
   rintro e wa ⟨rfl,hd⟩
   clear hc0 HDk
   replace hb:=hb.trans (hd.mono hb.size)
   replace HR:=Lh (own_below HR.out hd)
   replace VN:=Lh (VN.out.kept hd)
   clear hd
   generalize mkB (Lib.itoa nk)=tx at *
   have hx:Below wa.heap.size wa (wa.alloc (.cells #[.string tx] 9)):=(Below.refl _ _).alloc (Nat.le_refl _) _
   have KN:=Lh (new_tx wa tx 9)
   have hz2:=hb.size
   replace HR:=Lh (own_below HR.out hx)
   replace VN:=Lh (VN.out.kept hx)
   replace hb:=hb.trans (hx.mono hb.size)
   clear hx
   go_wp2_with (at_builtin;go_must (refine wpList_append_lies _ rfl (.tmp 28) (.tmp 31) 25 rfl w1.heap.size 9 i0 _ 1 16 Tryz.underlying25 hi0 hi1 hi2 hi3 rfl (by decide) _ k (((wordsOf ns).take k).flatMap Tx.enc) (by rfl) HR.out ⟨wa.heap.size,0,none⟩ 1 1 (Tx.enc tx) (by rfl) rfl KN.out (tx_one tx) (by decide) ?c1 ?c2 ?c3 _ rfl ?_))
   case c1=>unfold maxLen;omega
   case c2=>omega
   case c3=>(first | omega | (simp only [World.size_alloc];omega))
   intro g7 cap7 w7 hown hgr hwh hlt7
   have hgs:=VN.out.lt
   have hg7:g7≠gn:=by
    rcases hwh with h | h
    ·have e9:g1=g7:=Option.some.inj h
     omega
    ·try simp only [World.size_alloc] at h hgs
     omega
   have VN7:=Lh (VN.out.grown hgr (by intro e;exact hgn (Option.some.inj e).symm))
   have hb7:=hb.grown hgr hb.size (fun q e=>by have:=(HR.out.lt q e).1;omega)
   have HR7:Hid (w7.ownsRow w1.heap.size 9 1 (.slice (some ⟨g7,0,none⟩) (k+1) cap7) (k+1) (((wordsOf ns).take (k+1)).flatMap Tx.enc)):=Lh (by rw [HNX.out,← flat_snoc];exact hown)
   clear hown hgr hwh hlt7 KN hz2 HR VN hb hgs HNX
   go_wp2
   go_roundw
   case rel=>exact ⟨k+1,g7,cap7,by omega,by go_num,rfl,hg7,HR7,VN7,hb7⟩
   case measure=>simp [intOf];omega
  ·obtain rfl:k=5:=by omega
   clear VN HDE hlt
   have HR5:Hid (wr.ownsRow w1.heap.size 9 1 (.slice (some ⟨g1,0,none⟩) 5 cap) 5 ((wordsOf ns).flatMap Tx.enc)):=Lh (by have:=HR.out;rw [List.take_of_length_le (by rw [HWL.out];exact Nat.le_refl _)] at this;exact this)
   clear HR
   have c29:=cell_kept (HG0.out.cell (i:=29) rfl) hb
   cases ho:x.over with
   | false =>
    rw [ho] at c29 HLN
    clear ho
    go_wp2_with fail
    refine (HJN.out _ _ _ _ _ HWL.out (by decide) HR5.out (by rw [HLJ.out];unfold overL;rw [if_neg (by decide)];omega)).mono ?_
    rintro e wz ⟨rfl,hd⟩
    rw [HLJ.out]
    have hbz:=hb0.trans ((hb.trans (hd.mono hb.size)).mono hb0.size)
    clear hd hb c29 HR5 HJN HWL HG HG0 HTB
    go_wp2
    go_ret
    exact ⟨by rw [HLN.out];rfl,hbz⟩
   | true =>
    rw [ho] at c29 HLN
    clear ho
    have hx:Below wr.heap.size wr (wr.alloc (.cells #[.string ⟨#[111,118,101,114]⟩] 9)):=(Below.refl _ _).alloc (Nat.le_refl _) _
    have KN:=Lh (new_tx wr ⟨#[111,118,101,114]⟩ 9)
    have hz2:=hb.size
    have HRx:=Lh (own_below HR5.out hx)
    have hbx:=hb.trans (hx.mono hb.size)
    clear hx HR5 hb
    go_wp2_with (at_builtin;go_must (refine wpList_append_lies _ rfl (.tmp 36) (.tmp 37) 25 rfl w1.heap.size 9 i0 _ 1 16 Tryz.underlying25 hi0 hi1 hi2 hi3 rfl (by decide) _ 5 ((wordsOf ns).flatMap Tx.enc) (by rfl) HRx.out ⟨wr.heap.size,0,none⟩ 1 1 (Tx.enc ⟨#[111,118,101,114]⟩) (by rfl) rfl KN.out (tx_one _) (by decide) ?c1 ?c2 ?c3 _ rfl ?_))
    case c1=>unfold maxLen;omega
    case c2=>omega
    case c3=>(first | omega | (simp only [World.size_alloc];omega))
    intro g7 cap7 w7 hown hgr hwh hlt7
    have hb7:=hbx.grown hgr hbx.size (fun q e=>by have:=(HRx.out.lt q e).1;omega)
    have HR7:Hid (w7.ownsRow w1.heap.size 9 1 (.slice (some ⟨g7,0,none⟩) 6 cap7) 6 ((wordsOf ns++([⟨#[111,118,101,114]⟩]:List ByteArray)).flatMap Tx.enc)):=Lh (by rw [← flat_snoc];exact hown)
    clear hown hgr hwh hlt7 KN hz2 HRx hbx c29
    go_wp2_with fail
    refine (HJN.out _ _ _ _ _ (by rw [List.length_append,HWL.out];rfl) (by decide) HR7.out (by rw [HLJ2.out];unfold overL;rw [if_pos rfl,List.length_append];simp only [List.length_cons,List.length_nil];omega)).mono ?_
    rintro e wz ⟨rfl,hd⟩
    rw [HLJ2.out]
    have hbz:=hb0.trans ((hb7.trans (hd.mono hb7.size)).mono hb0.size)
    clear hd hb7 HR7 HJN HWL HG HG0 HTB
    go_wp2
    go_ret
    exact ⟨by rw [HLN.out];rfl,hbz⟩
theorem implScoreLine_any (x:Gam) (p:GaA) (w:World) (ha:x.At p w) (hf:x.fit) (htz:x.setup.tiles.letters.size≤1048576) (hwz:x.last.play.word.size≤1048576) (hE:CEnv w) (hL:EnvL w) (ht:Tab w) :
  Calls Tryz.prog 21 #[.agg (gcells x p).toArray] w (StrPost w x.scoreL):=by
 have hb:Below w.heap.size w (w.alloc (.cells (gcells x p).toArray 37)):=(Below.refl _ _).alloc (Nat.le_refl _) _
 have VI:=Lh (VarAt.new w 37 (gcells x p))
 have HA:=Lh (Gam.At.kept ha hb)
 have HE:=Lh (hE.kept hb)
 have HL:=Lh (hL.kept hb)
 have HT:=Lh (ht.kept hb)
 have HSZ:=Lh (size_game x p)
 have HVG:Hid (∀ W,x.At p W→CEnv W→EnvL W→Calls Tryz.prog 46 #[.agg (gcells x p).toArray] W fun e w'=>e=.returned (.bool x.ok)∧Below W.heap.size W w'):=Lh (fun W h h2 h3=>implValidGame_any x p W h hf htz hwz h2 h3)
 have HSL:Hid (x.ok=true→∀ W,x.At p W→Tab W→Calls Tryz.prog 48 #[.agg (gcells x p).toArray] W (StrPost W x.lineL)):=Lh (fun hk W h h2=>scoreLine_any x p W h hk h2)
 have HS0:Hid (x.ok=false→x.scoreL=[]):=Lh (fun h=>by unfold Gam.scoreL;rw [h];rfl)
 have HS1:Hid (x.ok=true→x.scoreL=x.lineL):=Lh (fun h=>by unfold Gam.scoreL;rw [h];rfl)
 clear ha hf htz hwz hE hL ht
 obtain ⟨gc,hgc⟩:∃ gc,gc=gcells x p:=⟨_,rfl⟩
 rw [← hgc]
 rw [← hgc] at VI hb HA HE HL HT HSZ HVG HSL
 clear hgc
 unfold StrPost at *
 go_enter Tryz.func21,Tryz.ntmps21
 go_upto_region 1 with fail
 generalize w.alloc (.cells gc.toArray 37)=w1 at *
 have RG:=VI.out.range
 refine wp_region_list ?_
 refine wpList_load_mid rfl 37 _ rfl w.heap.size 0 rfl gc _ RG Tryz.underlying37 rfl HSZ.out ?_
 clear RG
 go_wp2_with fail
 refine (HVG.out _ HA.out HE.out HL.out).mono ?_
 rintro e w2 ⟨rfl,hd⟩
 replace HA:=Lh (Gam.At.kept HA.out hd)
 replace hb:=hb.trans (hd.mono hb.size)
 replace VI:=Lh (VI.out.kept hd)
 replace HT:=Lh (HT.out.kept hd)
 clear hd
 clear HVG HE HL
 cases hk:x.ok with
 | false =>
  have HW:=Lh (HS0.out hk)
  clear hk HSL HS0 HS1 HA HT VI HSZ
  go_wp2
  go_ret
  exact ⟨by rw [HW.out];rfl,hb⟩
 | true =>
  have HW:=Lh (HS1.out hk)
  have HSL:=Lh (HSL.out hk)
  clear hk HS0 HS1
  go_upto_region 3 with fail
  have RG:=VI.out.range
  refine wp_region_list ?_
  refine wpList_load_mid rfl 37 _ rfl w.heap.size 0 rfl gc _ RG Tryz.underlying37 rfl HSZ.out ?_
  clear RG
  go_wp2_with fail
  refine (HSL.out _ HA.out HT.out).mono ?_
  rintro e w3 ⟨rfl,hd⟩
  replace hb:=hb.trans (hd.mono hb.size)
  clear hd HSL HA HT VI HSZ
  go_wp2
  go_ret
  exact ⟨by rw [HW.out];rfl,hb⟩
end Go.Proofs.YtgphkffbbmmmmaaGreatDoor
set_option maxRecDepth 100000
set_option maxHeartbeats 8000000
namespace Go.Proofs.YtgphkffbbmmmmaaGreatDoor
open Go.ChangeShapes Go.WideShapes Go.ChangeAt Go.RowKit Go.Sort

theorem implLines_any (x:Gam) (p:GaA) (w:World) (ha:x.At p w) (hf:x.fit) (htz:x.setup.tiles.letters.size≤1048576) (hwz:x.last.play.word.size≤1048576) (hE:CEnv w) (hL:EnvL w) (ht:Tab w) :
  Calls Tryz.prog 18 #[.agg (gcells x p).toArray] w (LinesPost x.lines w):=by
 obtain ⟨i0,hi0,hi1,hi2,hi3⟩:=info_parts infoTx
 have hb:Below w.heap.size w (w.alloc (.cells (gcells x p).toArray 37)):=(Below.refl _ _).alloc (Nat.le_refl _) _
 have VI:=Lh (VarAt.new w 37 (gcells x p))
 have HA:=Lh (Gam.At.kept ha hb)
 have HE:=Lh (hE.kept hb)
 have HL:=Lh (hL.kept hb)
 have HT:=Lh (ht.kept hb)
 have HSZ:=Lh (size_game x p)
 have HVG:Hid (∀ W,x.At p W→CEnv W→EnvL W→Calls Tryz.prog 46 #[.agg (gcells x p).toArray] W fun e w'=>e=.returned (.bool x.ok)∧Below W.heap.size W w'):=Lh (fun W h h2 h3=>implValidGame_any x p W h hf htz hwz h2 h3)
 have HSL:Hid (x.ok=true→∀ W,x.At p W→Tab W→Calls Tryz.prog 48 #[.agg (gcells x p).toArray] W (StrPost W x.lineL)):=Lh (fun hk W h h2=>scoreLine_any x p W h hk h2)
 clear ha hf htz hwz hE hL ht
 obtain ⟨gc,hgc⟩:∃ gc,gc=gcells x p:=⟨_,rfl⟩
 have HGC:Hid (gc=gcells x p):=Lh hgc
 rw [← hgc]
 rw [← hgc] at VI hb HA HE HL HT HSZ HVG HSL
 clear hgc
 unfold StrPost at HSL
 go_enter Tryz.func18,Tryz.ntmps18
 go_upto_region 1 with fail
 generalize w.alloc (.cells gc.toArray 37)=w1 at *
 have RG:=VI.out.range
 refine wp_region_list ?_
 refine wpList_load_mid rfl 37 _ rfl w.heap.size 0 rfl gc _ RG Tryz.underlying37 rfl HSZ.out ?_
 clear RG
 go_wp2_with fail
 refine (HVG.out _ HA.out HE.out HL.out).mono ?_
 rintro e w2 ⟨rfl,hd⟩
 replace HA:=Lh (Gam.At.kept HA.out hd)
 replace hb:=hb.trans (hd.mono hb.size)
 replace VI:=Lh (VI.out.kept hd)
 replace HT:=Lh (HT.out.kept hd)
 clear hd
 clear HVG HE HL
 cases hk:x.ok with
 | false =>
  have HW:=Lh (Gam.lines0 hk)
  clear hk HSL HA HT VI HSZ HGC
  go_wp2
  go_ret2
  exact lines_none HW.out rfl hb
 | true =>
  have HW:=Lh (Gam.lines1 hk)
  have HSL:=Lh (HSL.out hk)
  have hf:=Gam.fine hk
  obtain ⟨n,hn⟩:=Brd.good hf.board
  have hn15:=hn.hi
  have hsz:=hn.size
  have hr0:(x.rack 0).size≤7:=by have:=(rack_pile (hf.rack 0 (by decide))).2;simpa using this
  have hr1:(x.rack 1).size≤7:=by have:=(rack_pile (hf.rack 1 (by decide))).2;simpa using this
  have hrl:=hf.racks
  have HRW:Hid (∀ W,Calls Tryz.prog 47 #[.agg #[.int .i64 x.board.size,.string x.board.premium,.string x.board.cells],.string x.board.cells] W (TextsPost W (rowsB x.board.cells n))):=Lh (fun W=>rows_any x.board n x.board.cells W hsz hn15 hn.cells)
  have HRS:Hid (x.linesL=rowsB x.board.cells n++[⟨#[114,97,99,107,32,48,32]⟩++x.rack 0,⟨#[114,97,99,107,32,49,32]⟩++x.rack 1,mkB x.lineL]):=Lh (by unfold Gam.linesL;rw [hsz,Int.toNat_natCast])
  have HLL:Hid (x.linesL.length=n+3):=Lh (by rw [Gam.linesL_len,hsz,Int.toNat_natCast])
  have HRL:=Lh (rowsB_len x.board.cells n)
  clear hk hf hn hsz
  generalize rowsB x.board.cells n=rows at *
  have c10:=VI.out.cell (i:=10) (v:=.int .i64 x.board.size) (by rw [HGC.out];rfl)
  have c11:=VI.out.cell (i:=11) (v:=.string x.board.premium) (by rw [HGC.out];rfl)
  have c12:=VI.out.cell (i:=12) (v:=.string x.board.cells) (by rw [HGC.out];rfl)
  go_wp2_with fail
  refine (HRW.out _).mono ?_
  rintro e w3 ⟨g1,cap,rfl,ho,hd⟩
  rw [HRL.out] at ho
  rw [HRL.out]
  have hbs:=hb.size
  clear c10 c11 c12 HRW
  go_upto_region 4 with fail
  have hd2:=hd.trans ((Below.refl w2.heap.size w3).drew)
  have HR2:Hid (w3.drew.ownsRow w2.heap.size 9 1 (.slice (some ⟨g1,0,none⟩) n cap) n (rows.flatMap Tx.enc)):=Lh (own_below ho (Below.refl w3.heap.size w3).drew)
  clear ho hd HRL
  obtain ⟨rb,ro,hra,hrc⟩:=(HA.out.2.1).open (show 0 < x.racks.length by omega)
  have t0:w2.cell? ⟨rb,ro+0,none⟩=some (.string (x.rack 0)):=words_cell hrc (show 0 < x.racks.length by omega)
  have t1:w2.cell? ⟨rb,ro+1,none⟩=some (.string (x.rack 1)):=words_cell hrc (show 1 < x.racks.length by omega)
  rw [Nat.add_zero] at t0
  have c14:=VI.out.cell (i:=14) (v:=.slice p.racks.a x.racks.length p.racks.c) (by rw [HGC.out];rfl)
  rw [hra,hrl] at c14
  have HSF:Hid (∀ W,Below w2.heap.size w2 W→W.cell? ⟨w.heap.size,14,none⟩=some (.slice (some ⟨rb,ro,none⟩) 2 p.racks.c)∧W.cell? ⟨rb,ro,none⟩=some (.string (x.rack 0))∧W.cell? ⟨rb,ro+1,none⟩=some (.string (x.rack 1))∧W.rangeAt w.heap.size 0 gc):=Lh (fun W h=>⟨cell_kept c14 h,cell_kept t0 h,cell_kept t1 h,(VI.out.kept h).range⟩)
  clear c14 t0 t1 hra hrc HGC
  generalize x.rack 0=r0 at *
  generalize x.rack 1=r1 at *
  have z0:7+r0.size≤9223372036854775807:=by omega
  have z1:7+r1.size≤9223372036854775807:=by omega
  refine wp_region_held_drew (S:=fun W=>W.cell? ⟨w.heap.size,14,none⟩=some (.slice (some ⟨rb,ro,none⟩) 2 p.racks.c)∧W.cell? ⟨rb,ro,none⟩=some (.string r0)∧W.cell? ⟨rb,ro+1,none⟩=some (.string r1)∧W.rangeAt w.heap.size 0 gc) (by kernel_rfl) (HSF.out _ hd2) (fun hHeld=>?_)
  generalize w3.drew=wd at *
  refine slotA 0 14 (.slice (some ⟨g1,0,none⟩) n cap) ?_
  simp only [S3]
  refine slotA 1 15 (.pointer (some ⟨w.heap.size,14,none⟩)) ?_
  simp only [S3]
  refine slotA 2 16 (.slice (some ⟨rb,ro,none⟩) 2 p.racks.c) ?_ (hy:=Or.inl ⟨by rfl,fun w' hS=>by have c9:=hS.1;go_simp⟩)
  simp only [S3]
  refine slotA 3 17 (.pointer (some ⟨rb,ro,none⟩)) ?_
  simp only [S3]
  refine slotA 4 18 (.string r0) ?_ (hy:=Or.inl ⟨by rfl,fun w' hS=>by have c9:=hS.2.1;go_simp⟩)
  simp only [S3]
  refine slotA 5 19 (.string (⟨#[114,97,99,107,32,48,32]⟩++r0)) ?_
  simp only [S3]
  refine slotA 6 20 (.pointer (some ⟨w.heap.size,14,none⟩)) ?_
  simp only [S3]
  refine slotA 7 21 (.slice (some ⟨rb,ro,none⟩) 2 p.racks.c) ?_ (hy:=Or.inl ⟨by rfl,fun w' hS=>by have c9:=hS.1;go_simp⟩)
  simp only [S3]
  refine slotA 8 22 (.pointer (some ⟨rb,ro+1,none⟩)) ?_
  simp only [S3]
  refine slotA 9 23 (.string r1) ?_ (hy:=Or.inl ⟨by rfl,fun w' hS=>by have c9:=hS.2.2.1;go_simp⟩)
  simp only [S3]
  refine slotA 10 24 (.string (⟨#[114,97,99,107,32,49,32]⟩++r1)) ?_
  simp only [S3]
  refine slotA 11 25 (.agg gc.toArray) ?_ (hy:=yieldsIf_load_mid (by rfl) 37 _ rfl w.heap.size 0 rfl gc _ (fun _ h=>h.2.2.2) Tryz.underlying37 rfl HSZ.out)
  simp only [S3]
  refine wpAnyH_ready (rs:=[12]) (by kernel_rfl) (by simp) ?_
  refine AllReadyH.cons (o:=_) rfl (fun K hK=>?_) AllReadyH.nil
  go_simp
  refine (HSL.out _ (Gam.At.kept HA.out hd2) (HT.out.kept hd2)).mono ?_
  rintro e wa ⟨rfl,hd⟩
  replace hd2:=hd2.trans (hd.mono hd2.size)
  replace HR2:=Lh (own_below HR2.out hd)
  clear hd hHeld HSL z0 z1
  go_wp2_with fail
  refine hK.out _ _ (HSF.out _ hd2) (fun hHeld=>?_)
  clear hK K
  generalize mkB x.lineL=ln at *
  generalize (⟨#[114,97,99,107,32,48,32]⟩:ByteArray)++r0=tx0 at *
  generalize (⟨#[114,97,99,107,32,49,32]⟩:ByteArray)++r1=tx1 at *
  refine wpAnyH_ready (rs:=[13]) (by kernel_rfl) (by simp) ?_
  refine AllReadyH.cons (o:=_) rfl (fun K hK=>?_) AllReadyH.nil
  have hx:Below wa.heap.size wa (wa.alloc (.cells #[.string tx0,.string tx1,.string ln] 9)):=(Below.refl _ _).alloc (Nat.le_refl _) _
  have KN:=Lh (new_three wa tx0 tx1 ln 9)
  have hz2:=hd2.size
  replace HR2:=Lh (own_below HR2.out hx)
  replace hd2:=hd2.trans (hx.mono hd2.size)
  go_simp
  refine hK.out _ _ (HSF.out _ hd2) (fun hHeld2=>?_)
  clear hK K hHeld hx
  refine wpAnyH_ready (rs:=[14]) (by kernel_rfl) (by simp) ?_
  refine AllReadyH.cons (o:=_) rfl (fun K hK=>?_) AllReadyH.nil
  refine step_append_lies _ rfl (.tmp 14) (.tmp 27) 25 rfl w2.heap.size 9 i0 _ 1 16 Tryz.underlying25 hi0 hi1 hi2 hi3 rfl (by decide) _ n (rows.flatMap Tx.enc) (by rfl) HR2.out ⟨wa.heap.size,0,none⟩ 3 3 ([tx0,tx1,ln].flatMap Tx.enc) (by rfl) rfl KN.out (three_one _ _ _) (by decide) ?c1 ?c2 ?c3 _ rfl ?_
  case c1=>unfold maxLen;omega
  case c2=>omega
  case c3=>(first | omega | (simp only [World.size_alloc];omega))
  intro g7 cap7 w7 hown hgr hwh hlt7
  have hb7:=hd2.grown hgr hd2.size (fun q e=>(HR2.out.lt q e).1)
  have HR7:Hid (w7.ownsRow w2.heap.size 9 1 (.slice (some ⟨g7,0,none⟩) (n+3) cap7) (n+3) (x.linesL.flatMap Tx.enc)):=Lh (by rw [HRS.out,List.flatMap_append];exact hown)
  clear hown hgr hwh hlt7 KN hz2 HR2 hd2 hHeld2 HRS
  go_simp
  refine hK.out _ _ (HSF.out _ hb7) (fun hHeld=>?_)
  clear hK K
  refine slotA 15 2 (.slice (some ⟨g7,0,none⟩) (n+3) cap7) ?_
  simp only [S3]
  refine slotA 16 3 (.int .i64 0) ?_
  simp only [S3]
  refine wpAnyH_done (by kernel_rfl) ?_ _
  clear hHeld HSF
  replace hb:=hb.trans (hb7.mono hbs)
  clear hb7 VI HA HT HSZ
  rw [← HLL.out] at HR7
  go_wp2
  go_ret2
  exact lines_some HW.out (by rw [HLL.out];rfl) HR7.out hbs hb
theorem implGameLines_any (x:Gam) (p:GaA) (w:World) (ha:x.At p w) (hf:x.fit) (_hsm:x.small) (htz:x.setup.tiles.letters.size≤1048576) (hwz:x.last.play.word.size≤1048576) (hE:CEnv w) (hL:EnvL w) (ht:Tab w) :
  Calls Tryz.prog 18 #[.agg (gcells x p).toArray] w fun e w'=>∃ q:Rwa,e=.returned (.tuple #[.slice q.a x.lines.1.length q.c,.int .i64 x.lines.2])∧TZ w' w.heap.size q.a q.c x.lines.1∧True∧Below w.heap.size w w' :=
 (implLines_any x p w ha hf htz hwz hE hL ht).mono (by
  rintro e w' ⟨q,h1,h2,h3⟩
  exact ⟨q,h1,h2,trivial,h3⟩)
end Go.Proofs.YtgphkffbbmmmmaaGreatDoor
