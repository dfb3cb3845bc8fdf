/- Plain: how the two sides read the text of a tile set, word by word; a tile set in a box, i · Contracts: copies of games: the reference. Rows of 2^20 elements at most. · Contracts: cop -/
import Derived.Test.YtgphkffbbmmmmaaGreatDoorMkS
import Derived.Test.YtgphkffbbmmmmaaGreatDoorGpG
import Derived.Lib.IndexMore
import Derived.Lib.SmallJoins
set_option maxRecDepth 100000
namespace Go.Proofs.YtgphkffbbmmmmaaGreatDoor
open Go.ChangeShapes Go.WideShapes Go.ChangeAt Go.RowKit Go.Sort

def stepsO (f:Tls→List UInt8→Option Tls):Tls→List (List UInt8)→Option Tls
 | t,[]=>some t
 | t,w :: ws=>match f t w with
  | none=>none
  | some t2=>stepsO f t2 ws
theorem stepsO_states {f:Tls→List UInt8→Option Tls}:∀ {P:List (List UInt8)} {t0 t:Tls},stepsO f t0 P=some t→∃ T:Nat→Tls,T 0=t0∧(∀ k,k < P.length→f (T k) (P.getD k [])=some (T (k+1)))∧T P.length=t
 | [],t0,t,h=>⟨fun _=>t0,rfl,fun k hk=>absurd hk (Nat.not_lt_zero _),by cases h;rfl⟩
 | w :: ws,t0,t,h=>by
  unfold stepsO at h
  cases h1:f t0 w with
  | none=>rw [h1] at h;cases h
  | some t2 =>
   rw [h1] at h
   obtain ⟨T,e0,e1,e2⟩:=stepsO_states h
   refine ⟨fun k=>match k with | 0=>t0 | k+1=>T k,rfl,fun k hk=>?_,e2⟩
   cases k with
   | zero=>show f t0 w=some (T 0);rw [e0];exact h1
   | succ k=>exact e1 k (by simpa using hk)
/-- a letter's word is added -/
def Tls.add (t:Tls) (c:List UInt8) (v n:Int):Tls:={ t with letters:=t.letters++mkB c,values:=t.values++[v],counts:=t.counts++[n] }
def Tls.low (t:Tls) (w:List UInt8):Bool:=decide (t.letters.size≤26) && (decide (t.values.length≤26) && (decide (t.counts.length≤26) && decide (w.length≤40)))
theorem Tls.low_parts {t:Tls} {w:List UInt8} (h:t.low w=true):t.letters.size≤26∧t.values.length≤26∧t.counts.length≤26∧w.length≤40:=by
 simpa only [Tls.low,Bool.and_eq_true,decide_eq_true_eq] using h
/-- the reference's step, where all is well -/
def specStep (t:Tls) (w:List UInt8):Option Tls:=if t.low w=true then match partS w with
 | none=>none
 | some (p,q)=>match specNum q with
  | none=>none
  | some n=>if p=[63] then (if 0 < n then some { t with blanks:=n } else none) else match specNum (p.drop 1) with
   | none=>none
   | some v=>if t.blanks=0 then some (t.add (p.take 1) v n) else none
 else none
def partI (w:List UInt8):List UInt8 × List UInt8:=((Lib.cut (w.drop 1) [120]).1,(Lib.cut (w.drop 1) [120]).2.1)
/-- the program's step, where all is well -/
def implStep (t:Tls) (w:List UInt8):Option Tls:=if t.low w=true∧w≠[]∧(partI w).1.length≤40∧(partI w).2.length≤40 then
  (if w.headD 0=63 then some { t with blanks:=(specNum (partI w).2).getD 0 } else if t.letters.size≤25 then some (t.add (w.take 1) ((specNum (partI w).1).getD 0) ((specNum (partI w).2).getD 0)) else none)
 else none
theorem implStep_cases {t t2:Tls} {w:List UInt8} (h:implStep t w=some t2):t.low w=true∧w≠[]∧(partI w).1.length≤40∧(partI w).2.length≤40∧((w.headD 0=63∧t2={ t with blanks:=(specNum (partI w).2).getD 0 })∨(w.headD 0≠63∧t.letters.size≤25∧t2=t.add (w.take 1) ((specNum (partI w).1).getD 0) ((specNum (partI w).2).getD 0))):=by
 unfold implStep at h
 split at h
 ·rename_i hg
  refine ⟨hg.1,hg.2.1,hg.2.2.1,hg.2.2.2,?_⟩
  split at h
  ·rename_i h1
   cases h
   exact .inl ⟨h1,rfl⟩
  ·rename_i h1
   split at h
   ·rename_i h2
    cases h
    exact .inr ⟨h1,h2,rfl⟩
   ·cases h
 ·cases h
/-- the words of a tile set's text -/
def tilesW (t:Tls):List ByteArray:=(List.range t.counts.length).map (fun i=>mkB (tileW t i))++if 0 < t.blanks then [mkB (63 :: 120 :: Lib.itoa t.blanks)] else []
/-- a text and the tile set that it stands for -/
structure Tls.Text (t:Tls) (s:ByteArray):Prop where
 len:s.size≤1000
 few:(splitL 32 s.data.toList).length≤27
 spec:stepsO specStep tlsNone (splitL 32 s.data.toList)=some t
 impl:stepsO implStep tlsNone (splitL 32 s.data.toList)=some t
 text:tilesT t=s.data.toList
 join:Lib.join ((tilesW t).map (·.data.toList)) [32]=s.data.toList
 ok:t.ok=true
theorem text_small:smallT.Text smallX:=⟨by decide,by decide,by kernel_rfl,by kernel_rfl,small_text,by kernel_rfl,small_ok⟩
theorem text_english:englishT.Text englishX:=⟨by decide,by decide,by kernel_rfl,by kernel_rfl,english_text,by kernel_rfl,english_ok⟩

/-! ### A tile set in a box -/
structure TBox (w:World) (g:Nat) (x:Tls) (q:TlA):Prop where
 var:VarAt w g 24 (tlCells x q)
 vals:w.ownsRow (g+1) 2 1 (.slice q.values.a x.values.length q.values.c) x.values.length (x.values.flatMap I64.enc)
 cnts:w.ownsRow (g+1) 2 1 (.slice q.counts.a x.counts.length q.counts.c) x.counts.length (x.counts.flatMap I64.enc)
 off:offA q.values.a q.counts.a
theorem TBox.kept {w w':World} {g:Nat} {x:Tls} {q:TlA} (h:TBox w g x q) (hb:Below w.heap.size w w'):TBox w' g x q:=⟨h.var.kept hb,own_below h.vals hb,own_below h.cnts hb,h.off⟩
theorem TBox.lt {w:World} {g:Nat} {x:Tls} {q:TlA} (h:TBox w g x q):g < w.heap.size:=h.var.lt
theorem TBox.own {w:World} {g:Nat} {x:Tls} {q:TlA} (h:TBox w g x q):x.Own q (g+1) w:=⟨h.vals,h.cnts⟩
theorem TBox.new (w:World):TBox (w.alloc (.cells #[.string ⟨#[]⟩,.slice none 0 0,.slice none 0 0,.int .i64 0] 24)) w.heap.size tlsNone ⟨⟨none,0⟩,⟨none,0⟩⟩ :=
 ⟨VarAt.new w _ [.string ⟨#[]⟩,.slice none 0 0,.slice none 0 0,.int .i64 0],World.ownsRow_nil _ _ _ _,World.ownsRow_nil _ _ _ _,offA_none _⟩
theorem ownBlock_map {a:Option Addr} {n c k:Nat} (h:(Value.slice a n c).ownBlock=some k):a.map (·.block)=some k:=by
 cases a with
 | none=>cases h
 | some x=>exact h
theorem TBox.wrote {w w':World} {g:Nat} {x:Tls} {q:TlA} {a:Option Addr} {n c:Nat} (h:TBox w g x q) (hg:w.grownBy w' (Value.slice a n c).ownBlock) (hlo:∀ k,a.map (·.block)=some k→g+1≤k) :
  Wrote g [a] w w'∧VarAt w' g 24 (tlCells x q):=by
 have hW:Wrote g [a] w w':=Wrote.of_grown hg (Nat.le_of_lt h.lt) (fun k hk=>by have:=hlo k hk;omega)
 refine ⟨hW,h.var.wrote hW (fun s hs=>?_)⟩
 rw [List.mem_singleton.1 hs]
 intro k h1 h2
 obtain rfl:g=k:=by simpa using h2
 have:=hlo _ h1
 omega
/-- what a word's reading may write -/
def W3 (g:Nat) (q:TlA):List (Option Addr):=[some ⟨g,0,none⟩,q.values.a,q.counts.a]
theorem Wrote.sub {lo:Nat} {S S':List (Option Addr)} {w w':World} (h:Wrote lo S w w') (hs:∀ s∈S,s∈S'):Wrote lo S' w w':=⟨h.below,fun ho=>h.own (fun s hm=>ho s (hs s hm))⟩
theorem Wrote.same {lo:Nat} {S:List (Option Addr)} {a b c:World} (h:Wrote lo S a b) (k:Wrote lo S b c):Wrote lo S a c:=(h.trans k).sub (fun _ hs=>(List.mem_append.1 hs).elim id id)
theorem w3_box {g:Nat} {q:TlA}:∀ s∈([some ⟨g,0,none⟩]:List (Option Addr)),s∈W3 g q:=fun s hs=>by rw [List.mem_singleton.1 hs];exact List.mem_cons_self
theorem w3_vals {g:Nat} {q:TlA}:∀ s∈([q.values.a]++[some ⟨g,0,none⟩]:List (Option Addr)),s∈W3 g q:=fun s hs=>by
 unfold W3
 simp only [List.cons_append,List.nil_append,List.mem_cons,List.not_mem_nil,or_false] at hs ⊢
 rcases hs with h | h
 ·exact .inr (.inl h)
 ·exact .inl h
theorem w3_cnts {g:Nat} {q q2:TlA} (h:q2.counts=q.counts):∀ s∈([q2.counts.a]++[some ⟨g,0,none⟩]:List (Option Addr)),s∈W3 g q:=fun s hs=>by
 rw [h] at hs
 unfold W3
 simp only [List.cons_append,List.nil_append,List.mem_cons,List.not_mem_nil,or_false] at hs ⊢
 rcases hs with h | h
 ·exact .inr (.inr h)
 ·exact .inl h
theorem own_or {a:Option Addr} {n c g7 N H:Nat} (h:(Value.slice a n c).ownBlock=some g7∨g7=H) (hH:N≤H):∀ k,(some (⟨g7,0,none⟩:Addr)).map (·.block)=some k→a.map (·.block)=some k∨N≤k:=by
 intro k hk
 obtain rfl:g7=k:=by simpa using hk
 rcases h with h | h
 ·exact .inl (ownBlock_map h)
 ·exact .inr (h ▸ hH)
/-- rows that were there, or new ones -/
structure TNew (w:World) (q q2:TlA):Prop where
 vals:∀ k,q2.values.a.map (·.block)=some k→q.values.a.map (·.block)=some k∨w.heap.size≤k
 cnts:∀ k,q2.counts.a.map (·.block)=some k→q.counts.a.map (·.block)=some k∨w.heap.size≤k
theorem TNew.refl (w:World) (q:TlA):TNew w q q:=⟨fun _ h=>.inl h,fun _ h=>.inl h⟩
theorem TBox.addv {w w2:World} {g g7 cap7:Nat} {x:Tls} {q:TlA} {v:Int} (h:TBox w g x q)
  (hown:w2.ownsRow (g+1) 2 1 (.slice (some ⟨g7,0,none⟩) (x.values.length+1) cap7) (x.values.length+1) (x.values.flatMap I64.enc++I64.enc v))
  (hgr:w.grownBy w2 (Value.slice q.values.a x.values.length q.values.c).ownBlock) (hwh:(Value.slice q.values.a x.values.length q.values.c).ownBlock=some g7∨g7=w.heap.size) :
  TBox (w2.setCell ⟨g,1,none⟩ (.slice (some ⟨g7,0,none⟩) (x.values.length+1) cap7)) g { x with values:=x.values++[v] } ⟨⟨some ⟨g7,0,none⟩,cap7⟩,q.counts⟩∧Wrote g ([q.values.a]++[some ⟨g,0,none⟩]) w (w2.setCell ⟨g,1,none⟩ (.slice (some ⟨g7,0,none⟩) (x.values.length+1) cap7)):=by
 obtain ⟨hW,hV⟩:=h.wrote hgr (fun k hk=>(own_lt h.vals k hk).1)
 obtain ⟨o1,k1⟩:=hV.set 1 (.slice (some ⟨g7,0,none⟩) (x.values.length+1) cap7)
 have hl:(x.values++[v]).length=x.values.length+1:=by simp
 refine ⟨⟨o1.as (by unfold tlCells;simp only [hl];rfl),?_,row_store (hW.own (fun s hs=>by rw [List.mem_singleton.1 hs];exact h.off) h.cnts) k1 (Nat.lt_succ_self g),?_⟩,?_⟩
 ·have h2:=row_store (own_as hown (flat_snoc I64.enc x.values v)) k1 (Nat.lt_succ_self g)
  simp only [hl]
  exact h2
 ·intro k h1 h2
  obtain rfl:g7=k:=by simpa using h1
  rcases hwh with e | e
  ·exact h.off _ (ownBlock_map e) h2
  ·have:=own_lt h.cnts _ h2
   omega
 ·exact hW.trans (wrote_box k1 (Nat.le_of_lt hV.lt) (Nat.le_refl _))
theorem TBox.addc {w w2:World} {g g7 cap7:Nat} {x:Tls} {q:TlA} {v:Int} (h:TBox w g x q)
  (hown:w2.ownsRow (g+1) 2 1 (.slice (some ⟨g7,0,none⟩) (x.counts.length+1) cap7) (x.counts.length+1) (x.counts.flatMap I64.enc++I64.enc v))
  (hgr:w.grownBy w2 (Value.slice q.counts.a x.counts.length q.counts.c).ownBlock) (hwh:(Value.slice q.counts.a x.counts.length q.counts.c).ownBlock=some g7∨g7=w.heap.size) :
  TBox (w2.setCell ⟨g,2,none⟩ (.slice (some ⟨g7,0,none⟩) (x.counts.length+1) cap7)) g { x with counts:=x.counts++[v] } ⟨q.values,⟨some ⟨g7,0,none⟩,cap7⟩⟩∧Wrote g ([q.counts.a]++[some ⟨g,0,none⟩]) w (w2.setCell ⟨g,2,none⟩ (.slice (some ⟨g7,0,none⟩) (x.counts.length+1) cap7)):=by
 obtain ⟨hW,hV⟩:=h.wrote hgr (fun k hk=>(own_lt h.cnts k hk).1)
 obtain ⟨o1,k1⟩:=hV.set 2 (.slice (some ⟨g7,0,none⟩) (x.counts.length+1) cap7)
 have hl:(x.counts++[v]).length=x.counts.length+1:=by simp
 refine ⟨⟨o1.as (by unfold tlCells;simp only [hl];rfl),row_store (hW.own (fun s hs=>by rw [List.mem_singleton.1 hs];exact h.off.symm) h.vals) k1 (Nat.lt_succ_self g),?_,?_⟩,?_⟩
 ·have h2:=row_store (own_as hown (flat_snoc I64.enc x.counts v)) k1 (Nat.lt_succ_self g)
  simp only [hl]
  exact h2
 ·intro k h1 h2
  obtain rfl:g7=k:=by simpa using h2
  rcases hwh with e | e
  ·exact h.off _ h1 (ownBlock_map e)
  ·have:=own_lt h.vals _ h1
   omega
 ·exact hW.trans (wrote_box k1 (Nat.le_of_lt hV.lt) (Nat.le_refl _))
theorem TBox.setB {w:World} {g:Nat} {x:Tls} {q:TlA} (h:TBox w g x q) (n:Int):TBox (w.setCell ⟨g,3,none⟩ (.int .i64 n)) g { x with blanks:=n } q∧Wrote g [some ⟨g,0,none⟩] w (w.setCell ⟨g,3,none⟩ (.int .i64 n)):=by
 obtain ⟨o1,k1⟩:=h.var.set 3 (.int .i64 n)
 exact ⟨⟨o1,row_store h.vals k1 (Nat.lt_succ_self g),row_store h.cnts k1 (Nat.lt_succ_self g),h.off⟩,wrote_box k1 (Nat.le_of_lt h.lt) (Nat.le_refl _)⟩
theorem TBox.setL {w:World} {g:Nat} {x:Tls} {q:TlA} (h:TBox w g x q) (s:ByteArray):TBox (w.setCell ⟨g,0,none⟩ (.string s)) g { x with letters:=s } q∧Wrote g [some ⟨g,0,none⟩] w (w.setCell ⟨g,0,none⟩ (.string s)):=by
 obtain ⟨o1,k1⟩:=h.var.set 0 (.string s)
 exact ⟨⟨o1,row_store h.vals k1 (Nat.lt_succ_self g),row_store h.cnts k1 (Nat.lt_succ_self g),h.off⟩,wrote_box k1 (Nat.le_of_lt h.lt) (Nat.le_refl _)⟩
/-- a struct of whatever size is stored, in a region that draws -/
theorem mk_store {P:Program} {w:World} {ops:Array Oper} {o:Oper} {act:Act} {K:Act→World→Prop} {Q:Exit→Act→World→Prop} {E:Prop} (hgd:o.guard=none) (hds:o.dst=none) (ty:TypeId) (x y:Operand) (ho:o.op=.store ty x y)
  (b off:Nat) (cells:Array Value) (hx:act.eval x=.pointer (some ⟨b,off,none⟩)) (hy:act.eval y=.agg cells)
  (ht:w.there b off cells.size) (hi:(P.info? ty).map (·.size)=some cells.size) (h1:cells.all (·.oneCell')=true)
  (h:K act (w.setCells b off cells.toList)):if Region.wanted o (yielded ops act.tmps)=true then Oper.wp P o act w K Q else E :=
 step_store hgd ty x y ho b off cells hx hy ht hi h1 (by rw [hds];exact h)
end Go.Proofs.YtgphkffbbmmmmaaGreatDoor
set_option maxRecDepth 100000
set_option maxHeartbeats 8000000
namespace Go.Proofs.YtgphkffbbmmmmaaGreatDoor
open Go.ChangeShapes Go.WideShapes Go.ChangeAt Go.RowKit Go.Sort

theorem gcells_all1 (x:Gam) (q:GaA):∀ v∈gcells x q,v.oneCell'=true:=by
 intro v hv
 unfold gcells at hv
 simp only [List.mem_cons,List.not_mem_nil,or_false] at hv
 rcases hv with rfl | rfl | rfl | rfl | rfl | rfl | rfl | rfl | rfl | rfl | rfl | rfl | rfl | rfl | rfl | rfl | rfl | rfl | rfl | rfl | rfl | rfl | rfl | rfl | rfl | rfl | rfl | rfl | rfl | rfl<;>rfl
def gnone:List Value:=[.string ⟨#[]⟩,.slice none 0 0,.slice none 0 0,.int .i64 0,.slice none 0 0,.int .i64 0,.string ⟨#[]⟩,.string ⟨#[]⟩,.int .i64 0,.int .i64 0,.int .i64 0,.string ⟨#[]⟩,.string ⟨#[]⟩,.string ⟨#[]⟩,.slice none 0 0,.slice none 0 0,.slice none 0 0,.int .i64 0,.int .i64 0,.int .i64 0,.int .i64 0,.int .i64 0,.int .i64 0,.bool false,.string ⟨#[]⟩,.string ⟨#[]⟩,.string ⟨#[]⟩,.int .i64 0,.int .i64 0,.bool false]
end Go.Proofs.YtgphkffbbmmmmaaGreatDoor

namespace Go.Proofs.YtgphkffbbmmmmaaGreatDoor
open Go.ChangeShapes Go.WideShapes Go.ChangeAt Go.RowKit Go.Sort

theorem cloneI_any (xs:List Int) (a:Option Addr) (c:Nat) (w:World) (hs:SliceAt w 1 I64.enc a xs) (hl:xs.length≤1048576) :
  Calls Tryz.prog 153 #[.slice a xs.length c] w fun e w'=>∃ q:Rwa,e=.returned (.slice q.a xs.length q.c)∧IZ w' w.heap.size q.a q.c xs∧Below w.heap.size w w':=by
 have hq:∀ wx,(binOp .eql 22 (.slice a xs.length c) (.slice none 0 0)).run Tryz.prog wx=.ok (.bool a.isNone) wx:=fun wx=>Lib.run_eql_slice_nil (P:=Tryz.prog) wx 22 2 a xs.length c 0 0 Tryz.underlying22
 cases a with
 | none =>
  have hx:xs=[]:=by
   cases xs with
   | nil=>rfl
   | cons y ys=>obtain ⟨b,off,h,_⟩:=hs.open (show 0 < (y :: ys).length by simp);cases h
  subst hx
  have hq2:∀ wx,(binOp .eql 22 (.slice none 0 c) (.slice none 0 0)).run Tryz.prog wx=.ok (.bool true) wx:=hq
  clear hs hq
  go_enter Tryz.func153,Tryz.ntmps153
  go_wp2
  go_ret
  exact ⟨⟨none,0⟩,rfl,.inl rfl,Below.refl _ _⟩
 | some ad =>
  have hq2:∀ wx,(binOp .eql 22 (.slice (some ad) xs.length c) (.slice none 0 0)).run Tryz.prog wx=.ok (.bool false) wx:=hq
  have hx:Below w.heap.size w (w.alloc (.cells #[] 2)):=(Below.refl _ _).alloc (Nat.le_refl _) _
  obtain ⟨i0,hi0,hi1,hi2,hi3⟩:=info_parts infoI64
  have HS:=Lh (hs.kept hx)
  have HO:=Lh (own_empty w 2)
  clear hs hq
  go_enter Tryz.func153,Tryz.ntmps153
  go_wp2_with (at_builtin;go_must (refine wpList_copy I64.enc_len i64_one rfl (.tmp 5) (.tmp 6) 22 rfl w.heap.size 2 i0 _ 8 Tryz.underlying22 hi0 hi1 hi2 hi3 rfl (by decide) w.heap.size HO.out xs (some ad) c HS.out hl ?c1 rfl rfl ?_))
  case c1=>simp
  intro g2 cap w2 ho hgr _
  have hb:=below_grown hx (by simp) hgr (Nat.le_refl _)
  have HO2:=Lh ho
  clear ho hgr hx
  go_wp2
  go_ret
  exact ⟨⟨some ⟨g2,0,none⟩,cap⟩,rfl,.inr HO2.out,hb⟩
theorem cloneT_any (xs:List ByteArray) (a:Option Addr) (c:Nat) (w:World) (hs:SliceAt w 1 Tx.enc a xs) (hl:xs.length≤1048576) :
  Calls Tryz.prog 154 #[.slice a xs.length c] w fun e w'=>∃ q:Rwa,e=.returned (.slice q.a xs.length q.c)∧TZ w' w.heap.size q.a q.c xs∧Below w.heap.size w w':=by
 have hq:∀ wx,(binOp .eql 25 (.slice a xs.length c) (.slice none 0 0)).run Tryz.prog wx=.ok (.bool a.isNone) wx:=fun wx=>Lib.run_eql_slice_nil (P:=Tryz.prog) wx 25 9 a xs.length c 0 0 Tryz.underlying25
 cases a with
 | none =>
  have hx:xs=[]:=by
   cases xs with
   | nil=>rfl
   | cons y ys=>obtain ⟨b,off,h,_⟩:=hs.open (show 0 < (y :: ys).length by simp);cases h
  subst hx
  have hq2:∀ wx,(binOp .eql 25 (.slice none 0 c) (.slice none 0 0)).run Tryz.prog wx=.ok (.bool true) wx:=hq
  clear hs hq
  go_enter Tryz.func154,Tryz.ntmps154
  go_wp2
  go_ret
  exact ⟨⟨none,0⟩,rfl,.inl rfl,Below.refl _ _⟩
 | some ad =>
  have hq2:∀ wx,(binOp .eql 25 (.slice (some ad) xs.length c) (.slice none 0 0)).run Tryz.prog wx=.ok (.bool false) wx:=hq
  have hx:Below w.heap.size w (w.alloc (.cells #[] 9)):=(Below.refl _ _).alloc (Nat.le_refl _) _
  obtain ⟨i0,hi0,hi1,hi2,hi3⟩:=info_parts infoTx
  have HS:=Lh (hs.kept hx)
  have HO:=Lh (own_empty w 9)
  clear hs hq
  go_enter Tryz.func154,Tryz.ntmps154
  go_wp2_with (at_builtin;go_must (refine wpList_copy Tx.enc_len tx_one rfl (.tmp 5) (.tmp 6) 25 rfl w.heap.size 9 i0 _ 16 Tryz.underlying25 hi0 hi1 hi2 hi3 rfl (by decide) w.heap.size HO.out xs (some ad) c HS.out hl ?c1 rfl rfl ?_))
  case c1=>simp
  intro g2 cap w2 ho hgr _
  have hb:=below_grown hx (by simp) hgr (Nat.le_refl _)
  have HO2:=Lh ho
  clear ho hgr hx
  go_wp2
  go_ret
  exact ⟨⟨some ⟨g2,0,none⟩,cap⟩,rfl,.inr HO2.out,hb⟩
theorem copyLexicon_any (xs:List ByteArray) (a:Option Addr) (c:Nat) (w:World) (hs:SliceAt w 1 Tx.enc a xs) (hl:xs.length≤1048576) :
  Calls Tryz.prog 119 #[.agg #[.slice a xs.length c]] w fun e w'=>∃ q:Rwa,e=.returned (.agg #[.slice q.a xs.length q.c])∧TZ w' w.heap.size q.a q.c xs∧Below w.heap.size w w':=by
 have hb:Below w.heap.size w ((w.alloc (.cells #[.slice a xs.length c] 27)).alloc (.cells #[.slice none 0 0] 27)):=((Below.refl _ _).alloc (Nat.le_refl _) _).alloc (by simp) _
 have VI:=Lh (VarAt.kept (VarAt.new w 27 [.slice a xs.length c]) ((Below.refl _ _).alloc (Nat.le_refl _) (.cells #[.slice none 0 0] 27)))
 have VO:Hid (VarAt ((w.alloc (.cells #[.slice a xs.length c] 27)).alloc (.cells #[.slice none 0 0] 27)) (w.heap.size+1) 27 [.slice none 0 0]):=by
  have:=VarAt.new (w.alloc (.cells #[.slice a xs.length c] 27)) 27 [.slice none 0 0]
  rw [World.size_alloc] at this
  exact Lh this
 have HS:=Lh (hs.kept hb)
 clear hs
 go_enter Tryz.func119,Tryz.ntmps119
 go_upto_region 1 with fail
 generalize (w.alloc (.cells #[.slice a xs.length c] 27)).alloc (.cells #[.slice none 0 0] 27)=w1 at *
 have c0:=VI.out.cell (i:=0) rfl
 go_wp2_with fail
 refine (cloneT_any xs a c w1 HS.out hl).mono ?_
 rintro e w2 ⟨q,rfl,z,hd⟩
 have hz:=VO.out.lt
 have Z1:=Lh (z.mono (Nat.succ_le_of_lt hz))
 replace VO:=Lh (VO.out.kept hd)
 replace hb:=hb.trans (hd.mono hb.size)
 clear z hd VI c0
 have d0:=VO.out.cell (i:=0) rfl
 have f0:=VO.out.free 0
 obtain ⟨o1,k1⟩:=VO.out.set 0 (.slice q.a xs.length q.c)
 have e0:=o1.cell (i:=0) (v:=.slice q.a xs.length q.c) rfl
 have hb2:=hb.grown k1 hb.size (fun k h=>by cases h;omega)
 have Z2:=Lh (Z1.out.store k1 (Nat.lt_succ_self _))
 clear o1 k1 Z1 hb VO
 go_wp2
 refine bodyPost_ret (v:=.agg #[.slice q.a xs.length q.c]) (by simp [results,Tryz.results119,go_sem,e0]) rfl ?_
 exact ⟨q,rfl,Z2.out.mono (by omega),hb2⟩
theorem scells_tiles {w:World} {g:Nat} {x:Stp} {q:StA} (h:w.rangeAt g 0 (scells x q)):w.rangeAt g 0 (tlCells x.tiles q.tiles):=by
 intro j v hv
 unfold tlCells at hv
 match j,hv with
 | 0,hv=>cases hv;exact range_cell h 0 rfl
 | 1,hv=>cases hv;exact range_cell h 1 rfl
 | 2,hv=>cases hv;exact range_cell h 2 rfl
 | 3,hv=>cases hv;exact range_cell h 3 rfl
theorem scells_lex {w:World} {g:Nat} {x:Stp} {q:StA} (h:w.rangeAt g 0 (scells x q)):w.rangeAt g 4 [.slice q.lexicon.a x.lexicon.length q.lexicon.c]:=by
 intro j v hv
 match j,hv with
 | 0,hv=>cases hv;exact range_cell h 4 rfl
def tlZero:List Value:=[.string ⟨#[]⟩,.slice none 0 0,.slice none 0 0,.int .i64 0]
theorem copyTiles_any (x:Tls) (q:TlA) (w:World) (ha:x.At q w) (hs:x.small) :
  Calls Tryz.prog 118 #[.agg (tlCells x q).toArray] w (TlsPost x w):=by
 have hb:Below w.heap.size w ((w.alloc (.cells (tlCells x q).toArray 24)).alloc (.cells tlZero.toArray 24)):=((Below.refl _ _).alloc (Nat.le_refl _) _).alloc (by simp) _
 have VI:=Lh (VarAt.kept (VarAt.new w 24 (tlCells x q)) ((Below.refl _ _).alloc (Nat.le_refl _) (.cells tlZero.toArray 24)))
 have VO:Hid (VarAt ((w.alloc (.cells (tlCells x q).toArray 24)).alloc (.cells tlZero.toArray 24)) (w.heap.size+1) 24 tlZero):=by
  have:=VarAt.new (w.alloc (.cells (tlCells x q).toArray 24)) 24 tlZero
  rw [World.size_alloc] at this
  exact Lh this
 have HA:=Lh (Tls.At.kept ha hb)
 have HS:=Lh hs
 clear ha hs
 go_enter Tryz.func118,Tryz.ntmps118
 go_upto_region 1 with fail
 change Code.wp _ _ _ _ ((w.alloc (.cells (tlCells x q).toArray 24)).alloc (.cells tlZero.toArray 24))
 generalize (w.alloc (.cells (tlCells x q).toArray 24)).alloc (.cells tlZero.toArray 24)=w1 at *
 have hd:Below w1.heap.size w1 w1.drew:=(Below.refl _ _).drew
 replace HA:=Lh (Tls.At.kept HA.out hd)
 replace hb:=hb.trans (hd.mono hb.size)
 replace VI:=Lh (VI.out.kept hd)
 replace VO:=Lh (VO.out.kept hd)
 clear hd
 refine wp_region_held_drew (S:=fun w'=>w'.rangeAt w.heap.size 0 (tlCells x q)) (by kernel_rfl) VI.out.range (fun hHeld=>?_)
 generalize w1.drew=wd at *
 refine slotA 0 3 (.pointer (some ⟨w.heap.size,0,none⟩)) ?_
 simp only [S3]
 refine slotA 1 4 (.string x.letters) ?_ (hy:=Or.inl ⟨by rfl,fun w' hS=>by have c9:=range_cell hS 0 (v:=.string x.letters) rfl;go_simp⟩)
 simp only [S3]
 refine slotA 2 5 (.pointer (some ⟨w.heap.size,1,none⟩)) ?_
 simp only [S3]
 refine slotA 3 6 (.slice q.values.a x.values.length q.values.c) ?_ (hy:=Or.inl ⟨by rfl,fun w' hS=>by have c9:=range_cell hS 1 (v:=.slice q.values.a x.values.length q.values.c) rfl;go_simp⟩)
 simp only [S3]
 refine slotA 5 8 (.pointer (some ⟨w.heap.size,2,none⟩)) ?_
 simp only [S3]
 refine slotA 6 9 (.slice q.counts.a x.counts.length q.counts.c) ?_ (hy:=Or.inl ⟨by rfl,fun w' hS=>by have c9:=range_cell hS 2 (v:=.slice q.counts.a x.counts.length q.counts.c) rfl;go_simp⟩)
 simp only [S3]
 refine slotA 8 11 (.pointer (some ⟨w.heap.size,3,none⟩)) ?_
 simp only [S3]
 refine slotA 9 12 (.int .i64 x.blanks) ?_ (hy:=Or.inl ⟨by rfl,fun w' hS=>by have c9:=range_cell hS 3 (v:=.int .i64 x.blanks) rfl;go_simp⟩)
 simp only [S3]
 refine wpAnyH_ready (rs:=[4]) (by kernel_rfl) (by simp) ?_
 refine AllReadyH.cons (o:=_) rfl (fun K hK=>?_) AllReadyH.nil
 go_simp
 refine (cloneI_any x.values q.values.a q.values.c wd HA.out.1 HS.out.1).mono ?_
 rintro e w2 ⟨q1,rfl,z,hd⟩
 have Z1:=Lh (z.mono (show w.heap.size+2≤wd.heap.size from VO.out.lt))
 have L1:∀ k,(effA q1.a x.values).map (·.block)=some k→k < w2.heap.size:=fun k hk=>(z.lt k hk).2
 replace hHeld:=range_kept hHeld hd
 replace HA:=Lh (Tls.At.kept HA.out hd)
 replace hb:=hb.trans (hd.mono hb.size)
 replace VI:=Lh (VI.out.kept hd)
 replace VO:=Lh (VO.out.kept hd)
 clear hd
 clear z
 go_wp2_with fail
 refine hK.out _ _ hHeld (fun _=>?_)
 clear hK K
 refine wpAnyH_ready (rs:=[7]) (by kernel_rfl) (by simp) ?_
 refine AllReadyH.cons (o:=_) rfl (fun K hK=>?_) AllReadyH.nil
 go_simp
 refine (cloneI_any x.counts q.counts.a q.counts.c w2 HA.out.2 HS.out.2).mono ?_
 rintro e w3 ⟨q2,rfl,z,hd⟩
 have Z2:=Lh (z.mono (show w.heap.size+2≤w2.heap.size from VO.out.lt))
 have OF:=Lh (off_of_lt L1 (fun k hk=>(z.lt k hk).1))
 replace Z1:=Lh (Z1.out.kept hd)
 replace hHeld:=range_kept hHeld hd
 replace hb:=hb.trans (hd.mono hb.size)
 replace VI:=Lh (VI.out.kept hd)
 replace VO:=Lh (VO.out.kept hd)
 clear hd
 clear z L1 HA
 go_wp2_with fail
 refine hK.out _ _ hHeld (fun _=>?_)
 clear hK K
 refine wpAnyH_ready (rs:=[10]) (by kernel_rfl) (by simp) ?_
 refine AllReadyH.cons (o:=_) rfl (fun K hK=>?_) AllReadyH.nil
 go_simp
 refine hK.out _ _ hHeld (fun _=>?_)
 clear hK K
 have RI:=VI.out
 refine wpAnyH_ready (rs:=[11]) (by kernel_rfl) (by simp) ?_
 refine AllReadyH.cons (o:=_) rfl (fun K hK=>?_) AllReadyH.nil
 obtain ⟨o6,k6⟩:=VO.out.put (tlCells x ⟨q1,q2⟩) rfl
 have HB6:=Lh (hb.grown k6 hb.size (fun q h=>by cases h;omega))
 replace Z1:=Lh (Z1.out.store k6 (Nat.lt_succ_self _))
 replace Z2:=Lh (Z2.out.store k6 (Nat.lt_succ_self _))
 have HSA:=Lh ((RI.grown k6 (by intro e;have:=Option.some.inj e;omega)).range)
 have rZ:=o6.range
 have tR:=VO.out.there (n:=(tlCells x ⟨q1,q2⟩).length) rfl
 clear o6 k6 hb VO
 rw [if_pos (by rfl)]
 refine wp_store_mid 24 _ _ rfl (w.heap.size+1) 0 (tlCells x ⟨q1,q2⟩).toArray rfl rfl tR (by kernel_rfl) (all_oneCell_toArray (tlCells_one _ _)) ?_
 change K _ (w3.setCells (w.heap.size+1) 0 (tlCells x ⟨q1,q2⟩))
 generalize w3.setCells (w.heap.size+1) 0 (tlCells x ⟨q1,q2⟩)=wZ at *
 refine hK.out _ _ HSA.out (fun _=>?_)
 clear hK K tR
 have HV:=Lh (run_loadVar_mid (P:=Tryz.prog) wZ ((w.heap.size+1)) 0 24 (tlCells x ⟨q1,q2⟩) _ rZ Tryz.underlying24 rfl (by kernel_rfl))
 clear rZ
 refine wpAnyH_done (by kernel_rfl) ?_ _
 go_wp2
 refine bodyPost_ret (results_cell_var Tryz.results118 _ _ _ _ rfl HV.out) rfl ?_
 exact ⟨⟨q1,q2⟩,rfl,Z1.out.mono (by omega),Z2.out.mono (by omega),OF.out,HB6.out⟩
theorem copySetup_any (x:Stp) (q:StA) (w:World) (ha:x.At q w) (hs:x.small) :
  Calls Tryz.prog 74 #[.agg (scells x q).toArray] w (StpPost x w):=by
 have hb:Below w.heap.size w ((w.alloc (.cells (scells x q).toArray 31)).alloc (.cells szero.toArray 31)):=((Below.refl _ _).alloc (Nat.le_refl _) _).alloc (by simp) _
 have VI:=Lh (VarAt.kept (VarAt.new w 31 (scells x q)) ((Below.refl _ _).alloc (Nat.le_refl _) (.cells szero.toArray 31)))
 have VO:Hid (VarAt ((w.alloc (.cells (scells x q).toArray 31)).alloc (.cells szero.toArray 31)) (w.heap.size+1) 31 szero):=by
  have:=VarAt.new (w.alloc (.cells (scells x q).toArray 31)) 31 szero
  rw [World.size_alloc] at this
  exact Lh this
 have HA:=Lh (Stp.At.kept ha hb)
 have HS:=Lh hs
 clear ha hs
 go_enter Tryz.func74,Tryz.ntmps74
 go_upto_region 1 with fail
 change Code.wp _ _ _ _ ((w.alloc (.cells (scells x q).toArray 31)).alloc (.cells szero.toArray 31))
 generalize (w.alloc (.cells (scells x q).toArray 31)).alloc (.cells szero.toArray 31)=w1 at *
 have hd:Below w1.heap.size w1 w1.drew:=(Below.refl _ _).drew
 replace HA:=Lh (Stp.At.kept HA.out hd)
 replace hb:=hb.trans (hd.mono hb.size)
 replace VI:=Lh (VI.out.kept hd)
 replace VO:=Lh (VO.out.kept hd)
 clear hd
 refine wp_region_held_drew (S:=fun _=>True) (by kernel_rfl) trivial (fun hHeld=>?_)
 generalize w1.drew=wd at *
 refine slotA 0 3 (.pointer (some ⟨w.heap.size,0,none⟩)) ?_
 simp only [S3]
 refine slotA 3 6 (.pointer (some ⟨w.heap.size,4,none⟩)) ?_
 simp only [S3]
 refine wpAnyH_apart (σ:=Bool × Bool × Bool) (L:=fun s=>#[true,s.1,s.2.1,true,s.2.2,false,false,false,false,false]) (RS:=fun s=>(if s.1 then [] else [1])++(if s.1 then (if s.2.1 then [] else [2]) else [])++(if s.2.2 then [] else [4])) (m:=fun s=>cond s.1 0 1+cond s.2.1 0 1+cond s.2.2 0 1+5)
  (J:=fun s vs W=>(s.2.1=true→s.1=true)∧Below wd.heap.size wd W∧(s.1=true→vs 4=.agg (tlCells x.tiles q.tiles).toArray)∧(s.2.1=true→∃ r:TlA,vs 5=.agg (tlCells x.tiles r).toArray∧IZ W wd.heap.size r.values.a r.values.c x.tiles.values∧IZ W wd.heap.size r.counts.a r.counts.c x.tiles.counts∧offA (effA r.values.a x.tiles.values) (effA r.counts.a x.tiles.counts))∧(s.2.2=true→vs 7=.agg #[.slice q.lexicon.a x.lexicon.length q.lexicon.c]))
  (ks:=[4,5,7]) (s0:=(false,false,false)) (v0:=fun _=>undef) (by kernel_rfl) (by kernel_rfl) (by decide) ?hJ hHeld ?hr ?hm ?hend ?hstep
 case hr=>rintro ⟨_ | _,_ | _,_ | _⟩ vs W hJ h<;>first | exact absurd rfl h | exact absurd (hJ.1 rfl) (by decide) | kernel_rfl
 case hm=>rintro ⟨_ | _,_ | _,_ | _⟩ h<;>first | exact absurd rfl h | decide
 case hJ=>exact ⟨fun h=>h,Below.refl _ _,fun h=>absurd h (by decide),fun h=>absurd h (by decide),fun h=>absurd h (by decide)⟩
 case hstep =>
  rintro ⟨b1,b2,b4⟩ vs W ⟨hV,hB,h1,h2,h4⟩ hS i hi K hK
  have hi':(i=1∧b1=false)∨(i=2∧b1=true∧b2=false)∨(i=4∧b4=false):=by revert hi;cases b1<;>cases b2<;>cases b4<;>simp
  have RW:=VI.out.kept hB
  rcases hi' with ⟨rfl,rfl⟩ | ⟨rfl,rfl,rfl⟩ | ⟨rfl,rfl⟩
  ·refine wpOp_step (o:=_) rfl (fun K2 hK2=>?_)
   simp only [fillA,List.foldl_cons,List.foldl_nil,List.setIfInBounds_toArray,List.set_cons_zero,List.set_cons_succ]
   rw [if_pos (by rfl)]
   refine wp_load_mid 24 _ rfl w.heap.size 0 rfl (tlCells x.tiles q.tiles) _ (scells_tiles RW.range) Tryz.underlying24 rfl (by kernel_rfl) ?_
   exact hK2 _ _ (hK.out (true,b2,b4) (upV vs 4 (.agg (tlCells x.tiles q.tiles).toArray)) W rfl (by cases b2<;>cases b4<;>decide) trivial ⟨fun _=>rfl,hB,fun _=>rfl,h2,h4⟩)
  ·refine wpOp_step (o:=_) rfl (fun K2 hK2=>?_)
   simp only [fillA,List.foldl_cons,List.foldl_nil,List.setIfInBounds_toArray,List.set_cons_zero,List.set_cons_succ]
   have e9:=Lh (h1 rfl).symm
   rw [h1 rfl]
   go_simp
   refine (copyTiles_any x.tiles q.tiles W (Stp.At.kept HA.out hB).1 HS.out.1).mono ?_
   rintro e w' ⟨r,rfl,z1,z2,of,hd⟩
   have hk:=hK.out (true,true,b4) (upV vs 5 (.agg (tlCells x.tiles r).toArray)) w' rfl (by cases b4<;>decide) trivial ⟨fun _=>rfl,hB.trans (hd.mono hB.size),fun _=>h1 rfl,fun _=>⟨r,rfl,z1.mono hB.size,z2.mono hB.size,of⟩,h4⟩
   go_wp2_with fail
   rw [e9.out]
   exact hk
  ·refine wpOp_step (o:=_) rfl (fun K2 hK2=>?_)
   simp only [fillA,List.foldl_cons,List.foldl_nil,List.setIfInBounds_toArray,List.set_cons_zero,List.set_cons_succ]
   rw [if_pos (by rfl)]
   refine wp_load_mid 27 _ rfl w.heap.size 4 rfl [.slice q.lexicon.a x.lexicon.length q.lexicon.c] _ (scells_lex RW.range) Tryz.underlying27 rfl (by kernel_rfl) ?_
   exact hK2 _ _ (hK.out (b1,b2,true) (upV vs 7 (.agg #[.slice q.lexicon.a x.lexicon.length q.lexicon.c])) W rfl (by cases b1<;>cases b2<;>decide) trivial ⟨hV,hB,h1,h2,fun _=>rfl⟩)
 case hend =>
  rintro ⟨b1,b2,b4⟩ vs W n hrs hn ⟨_,hB,h1,h2,h4⟩ hHeld
  obtain ⟨rfl,rfl,rfl⟩:b1=true∧b2=true∧b4=true:=by revert hrs;cases b1<;>cases b2<;>cases b4<;>simp
  obtain ⟨r1,e2,z1,z2,o12⟩:=h2 rfl
  have e1:=h1 rfl
  have e4:=h4 rfl
  obtain ⟨n,rfl⟩:∃ k,n=k+5:=⟨n - 5,by have h9:5≤n:=hn;omega⟩
  simp only [fillA,List.foldl_cons,List.foldl_nil,List.setIfInBounds_toArray,List.set_cons_zero,List.set_cons_succ]
  rw [e1,e2,e4]
  clear h1 h2 h4 hrs hn e1 e2 e4
  refine slotA 6 9 (.pointer (some ⟨w.heap.size,0,none⟩)) ?_
  simp only [S3]
  refine wpAnyH_ready (rs:=[5]) (by kernel_rfl) (by simp) ?_
  refine AllReadyH.cons (o:=_) rfl (fun K hK=>?_) AllReadyH.nil
  go_simp
  refine (copyLexicon_any x.lexicon q.lexicon.a q.lexicon.c W (Stp.At.kept HA.out hB).2 HS.out.2).mono ?_
  rintro e w3 ⟨r3,rfl,z3,hd⟩
  have hz:=VO.out.lt
  have hzB:=hB.size
  have OF:Hid (x.Off ⟨r1,r3⟩):=Lh ⟨o12,off_of_lt (fun k hk=>(z1.lt k hk).2) (fun k hk=>(z3.lt k hk).1),off_of_lt (fun k hk=>(z2.lt k hk).2) (fun k hk=>(z3.lt k hk).1)⟩
  have Z1:=Lh ((z1.kept hd).mono hz)
  have Z2:=Lh ((z2.kept hd).mono hz)
  have Z3:=Lh (z3.mono (Nat.le_trans hz hzB))
  have hB2:=hB.trans (hd.mono hzB)
  replace VI:=Lh (VI.out.kept hB2)
  replace VO:=Lh (VO.out.kept hB2)
  replace hb:=hb.trans (hB2.mono hb.size)
  clear z1 z2 z3 o12 hd hB hB2 HA hz hzB
  go_wp2_with fail
  refine hK.out _ _ trivial (fun hHeld=>?_)
  clear hK K
  refine wpAnyH_ready (rs:=[7]) (by kernel_rfl) (by simp) ?_
  refine AllReadyH.cons (o:=_) rfl (fun K hK=>?_) AllReadyH.nil
  rw [if_pos (by rfl)]
  refine wp_store_mid 24 _ _ rfl w.heap.size 0 (tlCells x.tiles r1).toArray rfl rfl (fun j hj=>VI.out.there (n:=10) rfl j (Nat.lt_of_lt_of_le hj (by show 4≤10;decide))) (by kernel_rfl) (all_oneCell_toArray (tlCells_one _ _)) ?_
  have k7:=set_cells w.heap.size 31 (tlCells x.tiles r1) 0 _ _ VI.out
  have V7:=(VarAt.setMany (tlCells x.tiles r1) 0 VI.out).as (cs':=scells x ⟨r1,q.lexicon⟩) rfl
  replace Z1:=Lh (Z1.out.store k7 (by omega))
  replace Z2:=Lh (Z2.out.store k7 (by omega))
  replace Z3:=Lh (Z3.out.store k7 (by omega))
  replace VO:=Lh (VO.out.grown k7 (by intro e;have:=Option.some.inj e;omega))
  replace hb:=hb.grown k7 hb.size (fun k h=>by cases h;exact Nat.le_refl _)
  replace VI:=Lh V7
  clear k7 V7
  change K _ (w3.setCells w.heap.size 0 (tlCells x.tiles r1))
  generalize w3.setCells w.heap.size 0 (tlCells x.tiles r1)=w4 at *
  refine hK.out _ _ trivial (fun hHeld=>?_)
  clear hK K
  refine slotA 8 10 (.pointer (some ⟨w.heap.size,4,none⟩)) ?_
  simp only [S3]
  refine wpAnyH_ready (rs:=[9]) (by kernel_rfl) (by simp) ?_
  refine AllReadyH.cons (o:=_) rfl (fun K hK=>?_) AllReadyH.nil
  rw [if_pos (by rfl)]
  refine wp_store_mid 27 _ _ rfl w.heap.size 4 #[.slice r3.a x.lexicon.length r3.c] rfl rfl (fun j hj=>by have hj2:j=0:=Nat.lt_one_iff.1 hj;subst hj2;exact VI.out.there (n:=10) rfl 4 (by decide)) (by kernel_rfl) (all_oneCell_toArray (cs:=[.slice r3.a x.lexicon.length r3.c]) (fun v hv=>by rw [List.mem_singleton.1 hv];rfl)) ?_
  have k7:=set_cells w.heap.size 31 [.slice r3.a x.lexicon.length r3.c] 4 _ _ VI.out
  have V7:=(VarAt.setMany [.slice r3.a x.lexicon.length r3.c] 4 VI.out).as (cs':=scells x ⟨r1,r3⟩) rfl
  replace Z1:=Lh (Z1.out.store k7 (by omega))
  replace Z2:=Lh (Z2.out.store k7 (by omega))
  replace Z3:=Lh (Z3.out.store k7 (by omega))
  replace VO:=Lh (VO.out.grown k7 (by intro e;have:=Option.some.inj e;omega))
  replace hb:=hb.grown k7 hb.size (fun k h=>by cases h;exact Nat.le_refl _)
  replace VI:=Lh V7
  clear k7 V7
  change K _ (w4.setCells w.heap.size 4 [.slice r3.a x.lexicon.length r3.c])
  generalize w4.setCells w.heap.size 4 [.slice r3.a x.lexicon.length r3.c]=w5 at *
  refine hK.out _ _ trivial (fun hHeld=>?_)
  clear hK K
  refine wpAnyH_done (by kernel_rfl) ?_ _
  go_upto_region 2 with fail
  have rI:=VI.out.range
  have tR:=VO.out.there (n:=(scells x ⟨r1,r3⟩).length) rfl
  obtain ⟨o6,k6⟩:=VO.out.put (scells x ⟨r1,r3⟩) rfl
  have HB6:=Lh (hb.grown k6 hb.size (fun q h=>by cases h;omega))
  replace Z1:=Lh (Z1.out.store k6 (by omega))
  replace Z2:=Lh (Z2.out.store k6 (by omega))
  replace Z3:=Lh (Z3.out.store k6 (by omega))
  have rZ:=o6.range
  clear o6 k6 hb VI VO
  refine wp_region_list ?_
  refine wpList_load_mid rfl 31 _ rfl w.heap.size 0 rfl (scells x ⟨r1,r3⟩) _ rI Tryz.underlying31 rfl (size_setup _ _) ?_
  refine wpList_store_mid rfl 31 _ _ rfl (w.heap.size+1) 0 (scells x ⟨r1,r3⟩).toArray rfl rfl tR (size_setup _ _) (all_oneCell_toArray (scells_one _ _)) ?_
  clear rI tR
  change wpList _ _ _ _ _ (w5.setCells (w.heap.size+1) 0 (scells x ⟨r1,r3⟩))
  generalize w5.setCells (w.heap.size+1) 0 (scells x ⟨r1,r3⟩)=wZ at *
  have HV:=Lh (run_loadVar_mid (P:=Tryz.prog) wZ (w.heap.size+1) 0 31 (scells x ⟨r1,r3⟩) _ rZ Tryz.underlying31 rfl (size_setup _ _))
  clear rZ
  go_wp2
  refine bodyPost_ret (results_cell_var Tryz.results74 _ _ _ _ rfl HV.out) rfl ?_
  exact ⟨⟨r1,r3⟩,rfl,⟨Z1.out.mono (by omega),Z2.out.mono (by omega),Z3.out.mono (by omega)⟩,OF.out,HB6.out⟩
end Go.Proofs.YtgphkffbbmmmmaaGreatDoor
