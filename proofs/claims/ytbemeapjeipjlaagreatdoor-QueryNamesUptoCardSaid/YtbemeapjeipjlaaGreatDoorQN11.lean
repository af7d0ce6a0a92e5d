/- Rows of values that a call owns, of any kind. -/
import Derived.Test.YtbemeapjeipjlaaGreatDoorQN04
import Derived.Test.YtbemeapjeipjlaaGreatDoorQN10
set_option linter.unusedVariables false
set_option linter.unusedSimpArgs false
set_option linter.unusedSectionVars false
namespace Go.Proofs.YtbemeapjeipjlaaGreatDoor
open Go Go.RowKit
set_option maxRecDepth 100000
set_option maxHeartbeats 8000000
structure Bes (bw:Nat) (w w':World):Prop where
 os:w'.os=w.os
 tape:w'.tape=w.tape
 output:w'.output=w.output
 size:w.heap.size≤w'.heap.size
 block:∀k,k<w.heap.size→k≠bw→w'.heap[k]?=w.heap[k]?
theorem Bes.refl (bw:Nat) (w:World):Bes bw w w:=⟨rfl,rfl,rfl,Nat.le_refl _,fun _ _ _=>rfl⟩
theorem Bes.trans {bw:Nat} {a b c:World} (h:Bes bw a b) (k:Bes bw b c):Bes bw a c:=
 ⟨k.os.trans h.os,k.tape.trans h.tape,k.output.trans h.output,Nat.le_trans h.size k.size,fun i hi hn=>(k.block i (Nat.lt_of_lt_of_le hi h.size) hn).trans (h.block i hi hn)⟩
theorem Bes.of_below {bw:Nat} {w w':World} (h:Below w.heap.size w w'):Bes bw w w':=⟨h.os,h.tape,h.output,h.size,fun k hk _=>h.block k hk⟩
theorem Bes.cell {bw:Nat} {w w':World} (h:Bes bw w w') {p:Addr} (hp:p.block<w.heap.size) (hn:p.block≠bw):w'.cell? p=w.cell? p:=World.cell?_of_block (w:=w) (h.block p.block hp hn)
theorem Bes.frozen {bw:Nat} {w w':World} (h:Bes bw w w') {p:Addr} (hp:p.block<w.heap.size) (hn:p.block≠bw):w'.frozen? p=w.frozen? p:=World.frozen?_of_block (w:=w) (h.block p.block hp hn)
theorem Bes.set {bw:Nat} {a w:World} (h:Bes bw a w) (o:Nat) (u:Value):Bes bw a (w.setCell ⟨bw,o,none⟩ u):=by
 have hb:Below bw w (w.setCell ⟨bw,o,none⟩ u):=(Below.refl bw w).setCell (p:=⟨bw,o,none⟩) (Nat.le_refl _) u
 exact h.trans ⟨hb.os,hb.tape,hb.output,hb.size,fun k _ hn=>Below.heap_setCell w ⟨bw,o,none⟩ u k hn⟩
theorem Bes.below {bw:Nat} {w w':World} (h:Bes bw w w') (hb:bw≤w.heap.size):Below bw w w':=⟨h.os,h.tape,h.output,h.size,fun k hk=>h.block k (by omega) (by omega)⟩
structure Bears (α:Type) where
 size:Nat
 rd:World→(Nat→Prop)→α→List Value→Prop
 pos:0<size
 keep:∀{w w':World} {S:Nat→Prop},(∀p:Addr,S p.block→w'.cell? p=w.cell? p)→∀x v,rd w S x v→rd w' S x v
 more:∀{w:World} {S S':Nat→Prop},(∀b,S b→S' b)→∀x v,rd w S x v→rd w S' x v
 len:∀{w:World} {S:Nat→Prop} {x:α} {v:List Value},rd w S x v→v.length=size
def RowsAt {α:Type} (R:Bears α) (w:World) (S:Nat→Prop) (A:Option Addr) (l:List α):Prop:=l=[]∨∃b off,A=some ⟨b,off,none⟩∧S b∧∀(i:Nat) x,l[i]?=some x→∃v,Lie w b (off+i*R.size) v∧R.rd w S x v
theorem ownsRow_beside {w w':World} {B bw:Nat} {e:TypeId} {size:Nat} {v:Value} {n:Nat} {xs:List Value} (h:w.ownsRow B e size v n xs) (hb:Bes bw w w') (hB:bw<B):w'.ownsRow B e size v n xs:=by
 refine ⟨h.1,?_⟩
 rcases h.2 with hn|⟨g,cap,cur,rfl,hg,hgg,rest⟩
 ·exact .inl hn
 ·exact .inr ⟨g,cap,cur,rfl,hg,by rw[hb.block g (Array.getElem?_eq_some_iff.1 hgg).1 (by omega)];exact hgg,rest⟩
def OwnR {α:Type} (R:Bears α) (e:TypeId) (F:Nat→Prop) (w:World) (B:Nat) (v:Value) (l:List α):Prop:=
 ∃xs,w.ownsRow B e R.size v l.length xs∧∀(i:Nat) (x:α),l[i]?=some x→∃u,(∀j y,u[j]?=some y→xs[i*R.size+j]?=some y)∧R.rd w (Fresh F w v) x u
section
variable {α:Type} {R:Bears α} {e:TypeId}
theorem RowsAt.more {w:World} {S S':Nat→Prop} {A:Option Addr} {l:List α} (h:RowsAt R w S A l) (hS:∀b,S b→S' b):RowsAt R w S' A l:=by
 refine h.imp id ?_
 rintro ⟨b,off,hA,hb,hr⟩
 refine ⟨b,off,hA,hS _ hb,fun i x hx=>?_⟩
 obtain ⟨v,hv,hd⟩:=hr i x hx
 exact ⟨v,hv,R.more hS _ _ hd⟩
theorem RowsAt.keep {w w':World} {S:Nat→Prop} {A:Option Addr} {l:List α} (h:RowsAt R w S A l) (hk:∀p:Addr,S p.block→w'.cell? p=w.cell? p):RowsAt R w' S A l:=by
 refine h.imp id ?_
 rintro ⟨b,off,hA,hb,hr⟩
 refine ⟨b,off,hA,hb,fun i x hx=>?_⟩
 obtain ⟨v,hv,hd⟩:=hr i x hx
 exact ⟨v,hv.keep (fun p hp=>hk p (by rw[hp];exact hb)),R.keep hk _ _ hd⟩
theorem RowsAt.get {w:World} {S:Nat→Prop} {A:Option Addr} {l:List α} (h:RowsAt R w S A l) {k:Nat} {x:α} (hx:l[k]?=some x):∃b off v,A=some ⟨b,off,none⟩∧S b∧Lie w b (off+k*R.size) v∧R.rd w S x v:=by
 rcases h with h|⟨b,off,hA,hb,hr⟩
 ·subst h;simp at hx
 ·obtain ⟨v,hv,hd⟩:=hr k x hx
  exact ⟨b,off,v,hA,hb,hv,hd⟩
theorem OwnR.form {F:Nat→Prop} {w:World} {B:Nat} {v:Value} {l:List α} (h:OwnR R e F w B v l):∃A c,v=.slice A l.length c:=by
 obtain ⟨xs,h,_⟩:=h;exact ownsRow_form h
theorem OwnR.below {F:Nat→Prop} {w w':World} {B:Nat} {v:Value} {l:List α} (h:OwnR R e F w B v l) (hb:Below w.heap.size w w'):OwnR R e F w' B v l:=by
 obtain ⟨xs,ho,hx⟩:=h
 refine ⟨xs,ownsRow_below ho hb,fun i x hi=>?_⟩
 obtain ⟨u,hu,hr⟩:=hx i x hi
 exact ⟨u,hu,R.more (fun b hb'=>⟨hb'.1,Nat.lt_of_lt_of_le hb'.2.1 hb.size,hb'.2.2⟩) _ _ (R.keep (fun p hp=>hb.cell hp.2.1) _ _ hr)⟩
theorem OwnR.empty (F:Nat→Prop) (w:World) (B:Nat) (hB:B≤w.heap.size):OwnR R e F (w.alloc (.cells #[] e)) B (.slice (some ⟨w.heap.size,0,none⟩) 0 0) []:=
 ⟨[],ownsRow_empty w B _ R.size hB,fun i x h=>by simp at h⟩
theorem OwnR.nil (F:Nat→Prop) (w:World) (B:Nat):OwnR R e F w B (.slice none 0 0) []:=
 ⟨[],⟨by simp,.inl ⟨rfl,rfl⟩⟩,fun i x h=>by simp at h⟩
theorem OwnR.snoc {F:Nat→Prop} {w w2:World} {B:Nat} {v:Value} {l:List α} {xs u:List Value} {y:α} {g cap n:Nat} (hln:l.length=n)
  (hown:w.ownsRow B e R.size v n xs) (hx:∀(i:Nat) (x:α),l[i]?=some x→∃u,(∀j y,u[j]?=some y→xs[i*R.size+j]?=some y)∧R.rd w (Fresh F w v) x u) (hy:R.rd w (Fresh F w v) y u)
  (hown2:w2.ownsRow B e R.size (.slice (some ⟨g,0,none⟩) (n+1) cap) (n+1) (xs++u)) (hg:w.grownBy w2 v.ownBlock) (hat:v.ownBlock=some g∨g=w.heap.size) :
  OwnR R e F w2 B (.slice (some ⟨g,0,none⟩) (n+1) cap) (l++[y]):=by
 subst hln
 have hlen:xs.length=l.length*R.size:=hown.1
 have mv:∀z t,R.rd w (Fresh F w v) z t→R.rd w2 (Fresh F w2 (.slice (some ⟨g,0,none⟩) (l.length+1) cap)) z t:=by
  intro z t hz
  refine R.more (fun b hb=>⟨hb.1,Nat.lt_of_lt_of_le hb.2.1 hg.size,?_⟩) _ _ (R.keep (grown_keep hg (fun b hb=>⟨hb.2.1,hb.2.2⟩)) _ _ hz)
  intro e
  simp only[Value.ownBlock,Option.some.injEq]at e
  subst e
  rcases hat with h|h
  ·exact hb.2.2 h
  ·have:=hb.2.1;omega
 refine ⟨xs++u,by simpa using hown2,fun i x hi=>?_⟩
 by_cases h:i<l.length
 ·rw[List.getElem?_append_left h]at hi
  obtain ⟨t,ht,hr⟩:=hx i x hi
  exact ⟨t,fun j y hj=>by rw[List.getElem?_append_left (List.getElem?_eq_some_iff.1 (ht j y hj)).1];exact ht j y hj,mv _ _ hr⟩
 ·have hi2:i=l.length:=by
   have:=(List.getElem?_eq_some_iff.1 hi).1;simp at this;omega
  subst hi2
  simp at hi
  subst hi
  exact ⟨u,fun j y hj=>by rw[List.getElem?_append_right (by omega),hlen,Nat.add_sub_cancel_left];exact hj,mv _ _ hy⟩
theorem OwnR.read {F:Nat→Prop} {w:World} {B:Nat} {v:Value} {l:List α} (h:OwnR R e F w B v l) :
  ∃A c,v=.slice A l.length c∧RowsAt R w (fun b=>(F b∨B≤b)∧b<w.heap.size) A l:=by
 obtain ⟨xs,ho,hx⟩:=h
 obtain ⟨A,c,rfl⟩:=ownsRow_form ho
 refine ⟨A,c,rfl,?_⟩
 by_cases hn:l.length=0
 ·exact .inl (List.eq_nil_of_length_eq_zero hn)
 ·obtain ⟨g,cap,hv,hg,hlt⟩:=ho.form (by omega)
  injection hv with hA _ hc
  subst hA
  refine .inr ⟨g,0,rfl,⟨.inr hg,hlt⟩,fun i x hi=>?_⟩
  obtain ⟨u,hu,hr⟩:=hx i x hi
  refine ⟨u,fun j y hj=>by have:=ho.cells (g:=g) rfl _ _ (hu j y hj);simpa [Addr.add_lit,Nat.add_assoc] using this,R.more (fun b hb=>⟨.inl hb.1,hb.2.1⟩) _ _ hr⟩
theorem OwnR.beside {F:Nat→Prop} {w w':World} {B bw:Nat} {v:Value} {l:List α} (h:OwnR R e F w B v l) (hb:Bes bw w w') (hB:bw<B) (hF:∀b,F b→b≠bw):OwnR R e F w' B v l:=by
 obtain ⟨xs,ho,hx⟩:=h
 refine ⟨xs,?_,fun i x hi=>?_⟩
 ·exact ownsRow_beside ho hb hB
 ·obtain ⟨u,hu,hr⟩:=hx i x hi
  exact ⟨u,hu,R.more (fun b hb'=>⟨hb'.1,Nat.lt_of_lt_of_le hb'.2.1 hb.size,hb'.2.2⟩) _ _ (R.keep (fun p hp=>hb.cell hp.2.1 (hF _ hp.1)) _ _ hr)⟩
theorem fresh_of_newR {F:Nat→Prop} {wr w1 w2:World} {B:Nat} {S:Nat→Prop} {size n:Nat} {v:Value} {xs:List Value} {x:α} {u:List Value} (h:R.rd w1 (fun b=>S b∨New wr w1 b) x u) (hb:Below w1.heap.size w1 w2) (hw:wr.heap.size≤w1.heap.size) (hF:∀b,wr.heap.size≤b→F b)
  (hS:∀b,S b→F b∧b<B∧b<wr.heap.size) (hown:wr.ownsRow B e size v n xs):R.rd w2 (Fresh F w2 v) x u:=by
 have hlt:∀b,(S b∨New wr w1 b)→b<w1.heap.size:=fun b hb'=>hb'.elim (fun h=>Nat.lt_of_lt_of_le (hS b h).2.2 hw) (fun h=>h.2)
 refine R.more (fun b hb'=>⟨hb'.elim (fun h=>(hS b h).1) (fun h=>hF b h.1),Nat.lt_of_lt_of_le (hlt b hb') hb.size,fun he=>?_⟩) _ _ (R.keep (fun p hp=>hb.cell (hlt _ hp)) _ _ h)
 have h1:=(hown.lt b he).1
 have h2:=(hown.lt b he).2
 rcases hb' with h|h
 ·have:=(hS b h).2.1;omega
 ·have:=h.1;omega
end
theorem RdTS.len11 {w:World} {S:Nat→Prop} {x:Tm} {v:List Value} (h:RdTS w S x v):v.length=11:=by
 cases x with
 | mk k b i f t bs r l d c v=>obtain ⟨Ab,cb,Al,cl,Ad,cd,rfl,_⟩:=h;rfl
def bearsT:Bears Tm:=⟨11,RdTS,by decide,fun hk x v h=>RdTS.keep hk x v h,fun hS x v h=>RdTS.more hS x v h,fun h=>h.len11⟩
def RdTE (w:World) (S:Nat→Prop) (p:ByteArray×Tm) (v:List Value):Prop:=∃y,v=.string p.1 :: y∧p.1.size≤140737488351232∧RdTS w S p.2 y
def bearsE:Bears (ByteArray×Tm):=⟨12,RdTE,by decide,fun hk x v ⟨y,h1,h2,h3⟩=>⟨y,h1,h2,RdTS.keep hk _ _ h3⟩,fun hS x v ⟨y,h1,h2,h3⟩=>⟨y,h1,h2,RdTS.more hS _ _ h3⟩,fun ⟨y,h1,h2,h3⟩=>by rw[h1,List.length_cons,h3.len11]⟩
theorem rowsT_iff {w:World} {S:Nat→Prop} {A:Option Addr} {l:List Tm}:RowsAt bearsT w S A l↔(l=[]∨∃b off,A=some ⟨b,off,none⟩∧S b∧RdTL w S b off l):=by
 unfold RowsAt
 constructor
 ·exact fun h=>h.imp id fun ⟨b,off,h1,h2,h3⟩=>⟨b,off,h1,h2,RdTL.iff.2 h3⟩
 ·exact fun h=>h.imp id fun ⟨b,off,h1,h2,h3⟩=>⟨b,off,h1,h2,RdTL.iff.1 h3⟩
theorem rowsE_iff {w:World} {S:Nat→Prop} {A:Option Addr} {l:List (ByteArray×Tm)}:RowsAt bearsE w S A l↔(l=[]∨∃b off,A=some ⟨b,off,none⟩∧S b∧RdTD w S b off l):=by
 unfold RowsAt
 constructor
 ·refine fun h=>h.imp id fun ⟨b,off,h1,h2,h3⟩=>⟨b,off,h1,h2,RdTD.iff.2 fun i p hp=>?_⟩
  obtain ⟨v,hv,y,rfl,hs,hT⟩:=h3 i p hp
  refine ⟨by simpa [bearsE] using hv 0 _ rfl,hs,y,fun j u hj=>?_,hT⟩
  have:=hv (j+1) u (by simpa using hj)
  rwa [show off+i*bearsE.size+(j+1)=off+i*12+1+j by show off+i*12+(j+1)=_;omega]at this
 ·refine fun h=>h.imp id fun ⟨b,off,h1,h2,h3⟩=>⟨b,off,h1,h2,fun i p hp=>?_⟩
  obtain ⟨hn,hs,y,hv,hT⟩:=RdTD.iff.1 h3 i p hp
  refine ⟨.string p.1 :: y,fun j u hj=>?_,y,rfl,hs,hT⟩
  cases j with
  | zero=>simp at hj;subst hj;simpa [bearsE] using hn
  | succ j =>
   have:=hv j u (by simpa using hj)
   show w.cell? ⟨b,off+i*12+(j+1),none⟩=_
   rwa [show off+i*12+(j+1)=off+i*12+1+j by omega]
def seqIB (md:Region.Mode) (ops:Array Oper):List Nat→Array Bool→Bool
 | [],listed=>(Region.ready md ops listed).isEmpty
 | i :: r,listed=>decide (Region.ready md ops listed=[i])&&seqIB md ops r (listed.setIfInBounds i true)
def headIB (md:Region.Mode) (ops:Array Oper) (t:List Nat):List Nat→Array Bool→Bool
 | [],listed=>seqIB md ops t listed
 | i :: r,listed=>(Region.ready md ops listed).contains i&&Region.free md ops listed i&&headIB md ops t r (listed.setIfInBounds i true)
def pickI (l:List Oper):List Nat→List Oper
 | []=>[]
 | i :: r=>match l[i]? with
  | some o=>o :: pickI l r
  | none=>[]
section
variable {P:Program} {l:List Oper} {md:Region.Mode} {S:World→Prop} {Q:Exit→Act→World→Prop}
theorem seqS_anyI:∀(is:List Nat) (listed:Array Bool) (a:Act) (w:World),(∀i∈is,i<l.length)→seqIB md l.toArray is listed=true→seqS P l.toArray S Q (pickI l is) a w→wpAnyH P md l.toArray Q S is.length listed a w
 | [],_,_,_,_,hB,h=>⟨by simpa [seqIB] using hB,h⟩
 | k :: r,listed,a,w,hl,hB,h=>by
  have hk:k<l.length:=hl k (by simp)
  have h0:l.toArray[k]?=some l[k]:=by simp[hk]
  have hp:pickI l (k :: r)=l[k] :: pickI l r:=by rw[pickI,List.getElem?_eq_getElem hk]
  rw[hp]at h
  simp only[seqIB,Bool.and_eq_true,decide_eq_true_eq]at hB
  refine wpAnyH_all hB.1 (by simp) fun i hi=>?_
  obtain rfl:i=k:=by simpa using hi
  have R:=fun a' w' (h':seqS P l.toArray S Q (pickI l r) a' w')=>seqS_anyI r (listed.setIfInBounds i true) a' w' (fun j hj=>hl j (by simp[hj])) hB.2 h'
  unfold wpOp
  simp only[h0]
  unfold seqS at h
  split
  ·rename_i hw
   rw[if_pos hw]at h
   exact .inl (Oper.wp_mono (fun a' w' h'=>⟨h'.1,R _ _ h'.2⟩) h)
  ·rename_i hw
   rw[if_neg hw]at h
   exact ⟨h.1,R _ _ h.2⟩
theorem held_lexI {t:List Nat} {L:Act→Prop} (hsel:Region.noSelect l.toArray=true) (hQ:∀c a w d v,Q (.panic c) (a.put d v) w→Q (.panic c) a w) {w:World} (hS:S w) :
  ∀(is:List Nat) (listed:Array Bool) (a:Act),(∀i∈is,i<l.length)→headIB md l.toArray t is listed=true→hdS P l.toArray S L (pickI l is) a →
  (∀ls a',seqIB md l.toArray t ls=true→L a'→wpAnyH P md l.toArray Q S t.length ls a' w)→wpAnyH P md l.toArray Q S (is.length+t.length) listed a w
 | [],listed,a,_,hB,h,hL=>by simpa using hL listed a (by simpa [headIB] using hB) h
 | k :: r,listed,a,hl,hB,h,hL=>by
  have hk:k<l.length:=hl k (by simp)
  have h0:l.toArray[k]?=some l[k]:=by simp[hk]
  have hp:pickI l (k :: r)=l[k] :: pickI l r:=by rw[pickI,List.getElem?_eq_getElem hk]
  rw[hp]at h
  obtain ⟨v,hy,h⟩:=h
  simp only[headIB,Bool.and_eq_true]at hB
  obtain ⟨⟨hr,hf⟩,hB⟩:=hB
  rw[show (k :: r).length+t.length=(r.length+t.length)+1 by simp;omega]
  exact wpAnyH_take h0 hsel hf hr (fun c a w=>hQ c a w _ _) hy hS
   (held_lexI hsel hQ hS r _ _ (fun j hj=>hl j (by simp[hj])) hB h hL)
def heldIB (ops:Array Oper) (hs ts:List Nat):Bool:=Region.noSelect ops&&decide (hs.length+ts.length=ops.size)&&(hs.all fun i=>decide (i<ops.size))&&(ts.all fun i=>decide (i<ops.size))&&headIB .any ops ts hs (Array.replicate ops.size false)
theorem wp_region_heldI {id:Nat} {a:Act} {w:World} (S:World→Prop) (hs ts:List Nat) (hm:P.follows .mixedOrders=true) (hB:heldIB l.toArray hs ts=true) (hQ1:∀c (a:Act) w (i:Nat) v,Q (.panic c) (a.put (some i) v) w→Q (.panic c) a w) (hS:S w.drew)
  (h:HdS P l.toArray S (fun a'=>SeqS P l.toArray S Q (pickI l ts) a' w.drew) (pickI l hs) a):(Code.region id l.toArray true).wp P Q a w:=by
 have hQ:∀c (a:Act) w d v,Q (.panic c) (a.put d v) w→Q (.panic c) a w:=by
  intro c a w d v h
  cases d with
  | none=>exact h
  | some i=>exact hQ1 c a w i v h
 simp only[heldIB,Bool.and_eq_true,decide_eq_true_eq,List.all_eq_true,List.size_toArray]at hB
 obtain ⟨⟨⟨⟨hsel,hn⟩,hh⟩,ht⟩,hlex⟩:=hB
 refine wp_region_held (S:=S) hm ?_
 have:=held_lexI (md:=.any) (t:=ts) hsel hQ (w:=w.drew) hS hs (Array.replicate l.length false) a hh hlex h.out
  (fun ls a' h1 h2=>seqS_anyI ts ls a' w.drew ht h1 h2.out)
 rw[hn]at this
 simpa using this
end
def mixIB (md:Region.Mode) (ops:Array Oper):List (Bool×Nat)→Array Bool→Bool
 | [],listed=>(Region.ready md ops listed).isEmpty
 | (true,i) :: r,listed=>(Region.ready md ops listed).contains i&&Region.free md ops listed i&&mixIB md ops r (listed.setIfInBounds i true)
 | (false,i) :: r,listed=>decide (Region.ready md ops listed=[i])&&mixIB md ops r (listed.setIfInBounds i true)
def pickM (l:List Oper):List (Bool×Nat)→List (Bool×Oper)
 | []=>[]
 | i :: r=>match l[i.2]? with
  | some o=>(i.1,o) :: pickM l r
  | none=>[]
section
variable {P:Program} {ops:Array Oper} {l:List Oper} {md:Region.Mode} {S:World→Prop} {Q:Exit→Act→World→Prop}
def mixS (P:Program) (ops:Array Oper) (S:World→Prop) (Q:Exit→Act→World→Prop):List (Bool×Oper)→Act→World→Prop
 | [],a,w=>Q .normal a w
 | (true,o) :: r,a,w=>∃v,YieldsIf P ops S o v a∧mixS P ops S Q r (a.put o.dst v) w
 | (false,o) :: r,a,w=>if Region.wanted o (yielded ops a.tmps) then o.wp P a w (fun a' w'=>S w'∧mixS P ops S Q r a' w') Q else S w∧mixS P ops S Q r (a.put o.dst undef) w
structure MixS (P:Program) (ops:Array Oper) (S:World→Prop) (Q:Exit→Act→World→Prop) (l:List (Bool×Oper)) (a:Act) (w:World):Prop where
 out:mixS P ops S Q l a w
theorem MixS.nil {a:Act} {w:World} (h:Q .normal a w):MixS P ops S Q [] a w:=⟨h⟩
theorem MixS.step {o:Oper} {r:List (Bool×Oper)} {a:Act} {w:World}
  (h:∀K:Act→World→Prop,(∀a w,S w→MixS P ops S Q r a w→K a w)→if Region.wanted o (yielded ops a.tmps) then o.wp P a w K Q else K (a.put o.dst undef) w):MixS P ops S Q ((false,o) :: r) a w:=by
 have:=h (fun a w=>S w∧mixS P ops S Q r a w) (fun a w h1 h2=>⟨h1,h2.out⟩)
 refine ⟨?_⟩
 unfold mixS
 exact this
theorem MixS.head {o:Oper} {r:List (Bool×Oper)} {a:Act} {w:World}
  (h:∀K:Act→Prop,(∀a,MixS P ops S Q r a w→K a)→if Region.wanted o (yielded ops a.tmps) then ∃v,(∀w,S w→(execOp a.eval o).run P w=.ok (.value v) w)∧K (a.put o.dst v) else K (a.put o.dst undef)):MixS P ops S Q ((true,o) :: r) a w:=by
 have:=h (fun a=>mixS P ops S Q r a w) (fun a h=>h.out)
 refine ⟨?_⟩
 unfold mixS
 by_cases hw:Region.wanted o (yielded ops a.tmps)=true
 ·rw[if_pos hw]at this
  obtain ⟨v,h1,h2⟩:=this
  exact ⟨v,.inl ⟨hw,h1⟩,h2⟩
 ·rw[if_neg hw]at this
  exact ⟨undef,.inr ⟨by simpa using hw,rfl⟩,this⟩
theorem mix_any (hsel:Region.noSelect l.toArray=true) (hQ:∀c a w d v,Q (.panic c) (a.put d v) w→Q (.panic c) a w) :
  ∀(is:List (Bool×Nat)) (listed:Array Bool) (a:Act) (w:World),S w→(∀i∈is,i.2<l.length)→mixIB md l.toArray is listed=true→mixS P l.toArray S Q (pickM l is) a w→wpAnyH P md l.toArray Q S is.length listed a w
 | [],_,_,_,_,_,hB,h=>⟨by simpa [mixIB] using hB,h⟩
 | (true,k) :: r,listed,a,w,hS,hl,hB,h=>by
  have hk:k<l.length:=hl (true,k) (by simp)
  have h0:l.toArray[k]?=some l[k]:=by simp[hk]
  have hp:pickM l ((true,k) :: r)=(true,l[k]) :: pickM l r:=by rw[pickM];simp only[List.getElem?_eq_getElem hk]
  rw[hp]at h
  obtain ⟨v,hy,h⟩:=h
  simp only[mixIB,Bool.and_eq_true]at hB
  obtain ⟨⟨hr,hf⟩,hB⟩:=hB
  exact wpAnyH_take h0 hsel hf hr (fun c a w=>hQ c a w _ _) hy hS (mix_any hsel hQ r _ _ _ hS (fun j hj=>hl j (by simp[hj])) hB h)
 | (false,k) :: r,listed,a,w,hS,hl,hB,h=>by
  have hk:k<l.length:=hl (false,k) (by simp)
  have h0:l.toArray[k]?=some l[k]:=by simp[hk]
  have hp:pickM l ((false,k) :: r)=(false,l[k]) :: pickM l r:=by rw[pickM];simp only[List.getElem?_eq_getElem hk]
  rw[hp]at h
  simp only[mixIB,Bool.and_eq_true,decide_eq_true_eq]at hB
  refine wpAnyH_all hB.1 (by simp) fun i hi=>?_
  obtain rfl:i=k:=by simpa using hi
  have R:=fun a' w' (hS':S w') (h':mixS P l.toArray S Q (pickM l r) a' w')=>mix_any hsel hQ r (listed.setIfInBounds i true) a' w' hS' (fun j hj=>hl j (by simp[hj])) hB.2 h'
  unfold wpOp
  simp only[h0]
  unfold mixS at h
  split
  ·rename_i hw
   rw[if_pos hw]at h
   exact .inl (Oper.wp_mono (fun a' w' h'=>⟨h'.1,R _ _ h'.1 h'.2⟩) h)
  ·rename_i hw
   rw[if_neg hw]at h
   exact ⟨h.1,R _ _ h.1 h.2⟩
def mixB (ops:Array Oper) (is:List (Bool×Nat)):Bool:=Region.noSelect ops&&decide (is.length=ops.size)&&(is.all fun i=>decide (i.2<ops.size))&&mixIB .any ops is (Array.replicate ops.size false)
theorem wp_region_mix {id:Nat} {a:Act} {w:World} (S:World→Prop) (is:List (Bool×Nat)) (hm:P.follows .mixedOrders=true) (hB:mixB l.toArray is=true) (hQ1:∀c (a:Act) w (i:Nat) v,Q (.panic c) (a.put (some i) v) w→Q (.panic c) a w) (hS:S w.drew)
  (h:MixS P l.toArray S Q (pickM l is) a w.drew):(Code.region id l.toArray true).wp P Q a w:=by
 have hQ:∀c (a:Act) w d v,Q (.panic c) (a.put d v) w→Q (.panic c) a w:=by
  intro c a w d v h
  cases d with
  | none=>exact h
  | some i=>exact hQ1 c a w i v h
 simp only[mixB,Bool.and_eq_true,decide_eq_true_eq,List.all_eq_true,List.size_toArray]at hB
 obtain ⟨⟨⟨hsel,hn⟩,ht⟩,hlex⟩:=hB
 refine wp_region_held (S:=S) hm ?_
 have:=mix_any (md:=.any) hsel hQ is (Array.replicate l.length false) a w.drew hS ht hlex h.out
 rw[hn]at this
 simpa using this
end
attribute [local go_sem] ta_no_bool ta_yes_bool ta_nil_bool ta_no_int64 ta_yes_int64 ta_nil_int64 ta_no_flt ta_yes_flt ta_nil_flt ta_no_str ta_yes_str ta_nil_str ta_no_byt ta_yes_byt ta_nil_byt ta_no_ref ta_yes_ref ta_nil_ref ta_no_lst ta_yes_lst ta_nil_lst ta_no_dct ta_yes_dct ta_nil_dct ta_no_rec ta_yes_rec ta_nil_rec
def OutPost (S:Nat→Prop) (r:Out) (w:World) (e:Ending) (w':World):Prop:=Below w.heap.size w w'∧match r with
 | .val x=>∃v,e=.returned v∧RdS w' (fun b=>S b∨New w w' b) x v
 | .gone a why=>e=.panicked [{ v:=faultV a why,recovered:=false }]
theorem RdS.to {w:World} {S:Nat→Prop} {x:V} {v:Value} (h:RdS w S x v) (hS:∀b,S b→b<w.heap.size) {w':World} (hb:Below w.heap.size w w'):RdS w' S x v:=RdS.belowS h hS hb
theorem RdS.toR {w:World} {S:Nat→Prop} {x:V} {v:Value} (h:RdS w S x v) (hS:∀b,S b→b<w.heap.size) {w':World} (hb:Below w.heap.size w w'):Rd w' w'.heap.size x v:=RdS.more (fun b h=>Nat.lt_of_lt_of_le (hS b h) hb.size) _ _ (RdS.belowS h hS hb)
theorem good_any (op:ByteArray) (a:Int) (p:Value) (nm:ByteArray) (y:List Value) (hy:Eleven y) (hp:p.oneCell'=true) (x:V) (v:Value) (S:Nat→Prop) (w:World) (hS:∀b,S b→b<w.heap.size) (h:RdS w S x v) :
  Calls Tryz.prog 65 #[eV op a p nm y,v] w (OutPost S (goodV a x) w):=by
 obtain ⟨n0,n1,n2,n3,n4,n5,n6,n7,n8,n9,n10,rfl,h1⟩:=hy
 clear h1
 have HC:Hid (∀W,Below w.heap.size w W→Calls Tryz.prog 41 #[v] W (fun e w'=>e=.returned (.tuple #[.int .i64 (checkV x).1,.int .i64 (checkV x).2])∧Below W.heap.size W w')):=Hd (fun W hW=>check_out x v W (h.toR hS hW))
 have HB:Hid (Below w.heap.size w (w.alloc (.cells #[.string op,.int .i64 a,p,.string nm,n0,n1,n2,n3,n4,n5,n6,n7,n8,n9,n10] 32))):=Hd bnew
 by_cases hz:(checkV x).2=0
 ·have HF:Hid (goodV a x=.val x):=Hd (by unfold goodV;rw[if_pos hz])
  rw[hz]at HC
  have HR:=Hd (fun (W:World) (hW:Below w.heap.size w W)=>h.to hS hW)
  clear h hz
  unfold eV
  go_enter Tryz.func65,Tryz.ntmps65
  go_wp2_with fail
  refine (HC.out _ HB.out).mono ?_
  rintro e w1 ⟨rfl,hb1⟩
  have hb2:=HB.out.trans (hb1.mono (by simp))
  go_wp2
  go_ret
  exact ⟨hb2,by rw[HF.out];exact ⟨_,rfl,RdS.more (fun b h=>.inl h) _ _ (HR.out _ hb2)⟩⟩
 ·have HF:Hid (goodV a x=.gone a (checkV x).2):=Hd (by unfold goodV;rw[if_neg hz])
  generalize checkV x=ck at *
  have hq:((ck.2:Int)!=0)=true:=by rw[bne_iff_ne];omega
  clear h hz
  unfold eV
  go_enter Tryz.func65,Tryz.ntmps65
  go_wp2_with fail
  refine (HC.out _ HB.out).mono ?_
  rintro e w1 ⟨rfl,hb1⟩
  have q1:w1.cell? ⟨w.heap.size,1,none⟩=some (.int .i64 a):=(hb1.cell (p:=⟨w.heap.size,1,none⟩) (by simp)).trans (by simp[go_sem])
  have hb2:=HB.out.trans (hb1.mono (by simp))
  go_wp2
  exact ⟨rfl,hb2,by rw[HF.out];rfl⟩
def FieldsPost (S:Nat→Prop) (x:V) (w:World) (e:Ending) (w':World):Prop:=w=w'∧match fieldsOf x with
 | none=>e=.returned (.tuple #[.slice none 0 0,.bool false])
 | some l=>∃A c,e=.returned (.tuple #[.slice A l.length c,.bool true])∧l.length≤1099511627776∧DictS w S A l
theorem qfields_any (x:V) (v:Value) (S:Nat→Prop) (w:World) (hk:kindV x≠11) (h:RdS w S x v) :
  Calls Tryz.prog 90 #[v] w (FieldsPost S x w):=by
 by_cases h9:kindV x=9
 ·obtain ⟨l,rfl⟩:=kind_is_dict h9
  obtain ⟨A,c,rfl,hl,hD⟩:=h
  clear hk h9
  go_enter Tryz.func90,Tryz.ntmps90
  go_wp2
  go_ret2
  exact ⟨rfl,_,_,rfl,hl,hD⟩
 by_cases h10:kindV x=10
 ·obtain ⟨c,ver,l,rfl⟩:=kind_is_record h10
  obtain ⟨b,rfl,hb,hcs,q0,q1,hv1,hv2,A,cc,q2,hl,hD⟩:=h
  clear hk h9 h10
  go_enter Tryz.func90,Tryz.ntmps90
  go_wp2
  go_ret2
  exact ⟨rfl,_,_,rfl,hl,hD⟩
 ·have HF:Hid (fieldsOf x=none):=Hd (by cases x <;> first|rfl|exact absurd rfl h9|exact absurd rfl h10)
  have k0:=not_dict h 20 w h9
  have k1:=not_record h 20 w h10 hk
  clear h
  go_enter Tryz.func90,Tryz.ntmps90
  go_wp2
  go_ret2
  exact ⟨rfl,by rw[HF.out];rfl⟩
theorem underV_skip {l:List (ByteArray×V)} {k:Nat} {p:ByteArray×V} {s:ByteArray} (hp:l[k]?=some p) (h:(p.1.toList==s.toList)=false):underV (l.drop k) s=underV (l.drop (k+1)) s:=by
 obtain ⟨h1,e1⟩:=List.getElem?_eq_some_iff.1 hp
 rw[List.drop_eq_getElem_cons h1,e1];obtain ⟨n,x⟩:=p;rw[underV,if_neg (by rw[h];simp)]
theorem underV_hit {l:List (ByteArray×V)} {k:Nat} {p:ByteArray×V} {s:ByteArray} (hp:l[k]?=some p) (h:(p.1.toList==s.toList)=true):underV (l.drop k) s=some p.2:=by
 obtain ⟨h1,e1⟩:=List.getElem?_eq_some_iff.1 hp
 rw[List.drop_eq_getElem_cons h1,e1];obtain ⟨n,x⟩:=p;rw[underV,if_pos h]
theorem DictS.get {w:World} {S:Nat→Prop} {A:Option Addr} {l:List (ByteArray×V)} (h:DictS w S A l) {k:Nat} {p:ByteArray×V} (hx:l[k]?=some p) :
  ∃b off v,A=some ⟨b,off,none⟩∧S b∧w.cell? ⟨b,off+k*2,none⟩=some (.string p.1)∧p.1.size≤140737488351232∧w.cell? ⟨b,off+k*2+1,none⟩=some v∧RdS w S p.2 v:=by
 rcases h with h|⟨b,off,h1,h2,h3⟩
 ·subst h;cases hx
 ·obtain ⟨h4,h5,v,hv,hr⟩:=RdD.iff.1 h3 k p hx
  exact ⟨b,off,v,h1,h2,h4,h5,hv,hr⟩
def UnderPost (S:Nat→Prop) (r:Option V) (w:World) (e:Ending) (w':World):Prop:=Below w.heap.size w w'∧match r with
 | none=>e=.returned (.tuple #[.nilIface,.bool false])
 | some x=>∃v,e=.returned (.tuple #[v,.bool true])∧RdS w' S x v
theorem under_any (l:List (ByteArray×V)) (A:Option Addr) (c:Nat) (s:ByteArray) (S:Nat→Prop) (w:World) (hS:∀b,S b→b<w.heap.size) (hl:l.length≤1099511627776) (hD:DictS w S A l) :
  Calls Tryz.prog 91 #[.slice A l.length c,.string s] w (UnderPost S (underV l s) w):=by
 go_enter Tryz.func91,Tryz.ntmps91
 go_wp2
 go_loopw [10] (fun i wr=>∃k:Nat,i=.int .i64 k∧k≤l.length∧Hid (underV l s=underV (l.drop k) s)∧Below w.heap.size w wr) (fun i _=>l.length-(intOf i).toNat)
 case atStart=>exact ⟨0,rfl,by omega,Hd rfl,Below.refl _ _⟩
 case round =>
  obtain ⟨k,rfl,hk,HT,hb⟩:=hrel
  have hz:=hb.size
  by_cases hlt:k<l.length
  ·obtain ⟨p,hp⟩:∃p,l[k]?=some p:=⟨_,List.getElem?_eq_getElem hlt⟩
   obtain ⟨b,off,v,rfl,hSb,c0,hps,c1,hv⟩:=hD.get hp
   have hlb:=hS b hSb
   have d0:=(hb.cell (p:=⟨b,off+k*2,none⟩) hlb).trans c0
   have d1:=(hb.cell (p:=⟨b,off+k*2+1,none⟩) hlb).trans c1
   have hst:=fun W a m=>run_store Tryz.prog W a v m hv.one
   have hb2:Below w.heap.size w (wr.alloc (.cells #[.string p.1,v] 44)):=hb.alloc hz _
   have HV:=Hd (hv.to hS hb2)
   cases hq:(p.1.toList==s.toList)
   ·have HU:=Hd (HT.out.trans (underV_skip hp hq))
    clear hD hp hv HT c0 c1
    go_wp2
    refine ⟨⟨k+1,rfl,hlt,HU,hb2⟩,?_⟩
    simp[intOf];omega
   ·have HU:=Hd (HT.out.trans (underV_hit hp hq))
    clear hD hp hv HT c0 c1
    go_wp2
    go_ret2
    exact ⟨hb2,by rw[HU.out];exact ⟨v,rfl,HV.out⟩⟩
  ·obtain rfl:k=l.length:=by omega
   have HU:Hid (underV l s=none):=Hd (HT.out.trans (by rw[List.drop_length];rfl))
   clear hD HT
   go_wp2
   go_ret2
   exact ⟨hb,by rw[HU.out];rfl⟩
theorem field_any (op:ByteArray) (a:Int) (p:Value) (nm:ByteArray) (y:List Value) (hy:Eleven y) (hp:p.oneCell'=true) (x:V) (v:Value) (s:ByteArray) (S:Nat→Prop) (w:World) (hS:∀b,S b→b<w.heap.size) (hk:kindV x≠11) (h:RdS w S x v) :
  Calls Tryz.prog 59 #[eV op a p nm y,v,.string s] w (OutPost S (fieldV a x s) w):=by
 have HBad:=Hd (fun (W:World)=>bad_any op a p nm y hy hp W)
 obtain ⟨n0,n1,n2,n3,n4,n5,n6,n7,n8,n9,n10,rfl,h1⟩:=hy
 clear h1
 unfold eV at *
 have HB:Hid (Below w.heap.size w (w.alloc (.cells #[.string op,.int .i64 a,p,.string nm,n0,n1,n2,n3,n4,n5,n6,n7,n8,n9,n10] 32))):=Hd bnew
 have HFd:=Hd (qfields_any x v S _ hk (h.to hS HB.out))
 cases hf:fieldsOf x with
 | none =>
  have HF:Hid (fieldV a x s=.gone a 172):=Hd (by unfold fieldV;rw[hf])
  unfold FieldsPost at HFd
  rw[hf]at HFd
  clear hf h
  go_enter Tryz.func59,Tryz.ntmps59
  go_wp2_with fail
  refine HFd.out.mono ?_
  rintro e w1 ⟨rfl,rfl⟩
  go_wp2_with fail
  refine (HBad.out _).mono ?_
  rintro e w1 ⟨rfl,hb1⟩
  exact ⟨rfl,HB.out.trans (hb1.mono (by simp)),by rw[HF.out]⟩
 | some l =>
  have HF:Hid (fieldV a x s=.val ((underV l s).getD .nil)):=Hd (by unfold fieldV;rw[hf])
  unfold FieldsPost at HFd
  rw[hf]at HFd
  clear hf h
  have HU:=Hd (fun (A:Option Addr) (c:Nat) (hl:l.length≤1099511627776) hD=>under_any l A c s S (w.alloc (.cells #[.string op,.int .i64 a,p,.string nm,n0,n1,n2,n3,n4,n5,n6,n7,n8,n9,n10] 32)) (fun b h=>Nat.lt_of_lt_of_le (hS b h) HB.out.size) hl hD)
  unfold UnderPost at HU
  go_enter Tryz.func59,Tryz.ntmps59
  go_wp2_with fail
  refine HFd.out.mono ?_
  rintro e w1 ⟨rfl,A,c,rfl,hl,hD⟩
  cases hu:underV l s with
  | none =>
   rw[hu]at HU HF
   clear hu
   go_wp2_with fail
   refine (HU.out A c hl hD).mono ?_
   rintro e w2 ⟨hb1,rfl⟩
   go_wp2
   go_ret
   exact ⟨HB.out.trans (hb1.mono (by simp)),by rw[HF.out];exact ⟨_,rfl,rfl⟩⟩
  | some z =>
   rw[hu]at HU HF
   clear hu
   go_wp2_with fail
   refine (HU.out A c hl hD).mono ?_
   rintro e w2 ⟨hb1,u,rfl,hr⟩
   go_wp2
   go_ret
   exact ⟨HB.out.trans (hb1.mono (by simp)),by rw[HF.out];exact ⟨_,rfl,RdS.more (fun b h=>.inl h) _ _ hr⟩⟩
structure Aside (bw:Nat) (w w':World):Prop where
 os:w'.os=w.os
 tape:w'.tape=w.tape
 output:w'.output=w.output
 size:w.heap.size≤w'.heap.size
 block:∀k,k<w.heap.size→k≠bw→w'.heap[k]?=w.heap[k]?
theorem Aside.refl (bw:Nat) (w:World):Aside bw w w:=⟨rfl,rfl,rfl,Nat.le_refl _,fun _ _ _=>rfl⟩
theorem Aside.trans {bw:Nat} {a b c:World} (h:Aside bw a b) (k:Aside bw b c):Aside bw a c:=
 ⟨k.os.trans h.os,k.tape.trans h.tape,k.output.trans h.output,Nat.le_trans h.size k.size,fun i hi hn=>(k.block i (Nat.lt_of_lt_of_le hi h.size) hn).trans (h.block i hi hn)⟩
theorem Aside.of_below {bw:Nat} {w w':World} (h:Below w.heap.size w w'):Aside bw w w':=⟨h.os,h.tape,h.output,h.size,fun k hk _=>h.block k hk⟩
theorem Aside.cell {bw:Nat} {w w':World} (h:Aside bw w w') {p:Addr} (hp:p.block<w.heap.size) (hn:p.block≠bw):w'.cell? p=w.cell? p:=World.cell?_of_block (w:=w) (h.block p.block hp hn)
theorem Aside.frozen {bw:Nat} {w w':World} (h:Aside bw w w') {p:Addr} (hp:p.block<w.heap.size) (hn:p.block≠bw):w'.frozen? p=w.frozen? p:=World.frozen?_of_block (w:=w) (h.block p.block hp hn)
theorem Aside.drew {bw:Nat} {a w:World} (h:Aside bw a w):Aside bw a w.drew:=⟨h.os,h.tape,h.output,h.size,h.block⟩
theorem Aside.set {bw:Nat} {w:World} (o:Nat) (u:Value):Aside bw w (w.setCell ⟨bw,o,none⟩ u):=by
 have hb:Below bw w (w.setCell ⟨bw,o,none⟩ u):=(Below.refl bw w).setCell (p:=⟨bw,o,none⟩) (Nat.le_refl _) u
 refine ⟨hb.os,hb.tape,hb.output,hb.size,fun k _ hn=>Below.heap_setCell w ⟨bw,o,none⟩ u k hn⟩
def Seen (S:Nat→Prop) (w:World) (bw:Nat):Prop:=∀b,S b→b<w.heap.size∧b≠bw
theorem Seen.to {S:Nat→Prop} {w w':World} {bw:Nat} (h:Seen S w bw) (ha:w.heap.size≤w'.heap.size):Seen S w' bw:=fun b hb=>⟨Nat.lt_of_lt_of_le (h b hb).1 ha,(h b hb).2⟩
theorem Seen.more {S:Nat→Prop} {w w':World} {bw:Nat} (h:Seen S w bw) (hb:bw<w.heap.size) (ha:w.heap.size≤w'.heap.size):Seen (fun b=>S b∨New w w' b) w' bw:=fun b hb'=>hb'.elim (fun h'=>(h.to ha) b h') (fun h'=>⟨h'.2,by have:=h'.1;omega⟩)
theorem RdS.aside {w w':World} {S:Nat→Prop} {bw:Nat} {x:V} {v:Value} (h:RdS w S x v) (hS:Seen S w bw) (ha:Aside bw w w'):RdS w' S x v:=RdS.keep (fun _ hp=>ha.cell (hS _ hp).1 (hS _ hp).2) x v h
theorem RdES.aside {w w':World} {S:Nat→Prop} {bw:Nat} {x:Ex} {v:List Value} (h:RdES w S x v) (hS:Seen S w bw) (ha:Aside bw w w'):RdES w' S x v:=RdES.keep (fun _ hp=>ha.cell (hS _ hp).1 (hS _ hp).2) x v h
theorem Hold.below {w w':World} {bw k:Nat} {v:Value} (h:Hold w bw k v) (hb:Below w.heap.size w w') (hl:bw<w.heap.size):Hold w' bw k v:=⟨(hb.cell (p:=⟨bw,k,none⟩) hl).trans h.1,(hb.frozen (p:=⟨bw,k,none⟩) hl).trans h.2⟩
def Words (w:World) (S:Nat→Prop) (g:Nat) (l:List ByteArray):Prop:=S g∧∃b off c,S b∧w.cell? ⟨g,0,none⟩=some (.slice (some ⟨b,off,none⟩) l.length c)∧∀i s,l[i]?=some s→w.cell? ⟨b,off+i,none⟩=some (.string s)
theorem Words.aside {w w':World} {S:Nat→Prop} {bw g:Nat} {l:List ByteArray} (h:Words w S g l) (hS:Seen S w bw) (ha:Aside bw w w'):Words w' S g l:=by
 obtain ⟨hg,b,off,c,hb,h1,h2⟩:=h
 exact ⟨hg,b,off,c,hb,(ha.cell (p:=⟨g,0,none⟩) (hS g hg).1 (hS g hg).2).trans h1,fun i s hi=>(ha.cell (p:=⟨b,off+i,none⟩) (hS b hb).1 (hS b hb).2).trans (h2 i s hi)⟩
theorem Words.more {w:World} {S S':Nat→Prop} {g:Nat} {l:List ByteArray} (h:Words w S g l) (hS:∀b,S b→S' b):Words w S' g l:=by
 obtain ⟨hg,b,off,c,hb,h1,h2⟩:=h
 exact ⟨hS _ hg,b,off,c,hS _ hb,h1,h2⟩
theorem windex_any (l:List ByteArray) (b off c:Nat) (s:ByteArray) (w:World) (hl:l.length≤1048576) (hc:∀i t,l[i]?=some t→w.cell? ⟨b,off+i,none⟩=some (.string t)) :
  Calls Tryz.prog 63 #[.slice (some ⟨b,off,none⟩) l.length c,.string s] w (NumPost (idxW l s 0) w):=by
 go_enter Tryz.func63,Tryz.ntmps63
 go_wp2
 go_loopw [8] (fun i wr=>∃k:Nat,i=.int .i64 k∧k≤l.length∧Hid (idxW l s 0=idxW (l.drop k) s k)∧w=wr) (fun i _=>l.length-(intOf i).toNat)
 case atStart=>exact ⟨0,rfl,by omega,Hd rfl,rfl⟩
 case round =>
  obtain ⟨k,rfl,hk,HT,rfl⟩:=hrel
  by_cases hlt:k<l.length
  ·obtain ⟨t,ht⟩:∃t,l[k]?=some t:=⟨_,List.getElem?_eq_getElem hlt⟩
   have d0:=hc k t ht
   have HU:Hid (idxW l s 0=if (s.toList==t.toList)=true then (k:Int) else idxW (l.drop (k+1)) s (k+1)):=Hd (by
    rw[HT.out,List.drop_eq_getElem_cons hlt]
    rw[List.getElem?_eq_getElem hlt]at ht;injection ht with ht;rw[ht];rfl)
   clear ht HT hc
   cases hq:(s.toList==t.toList)
   ·have HU2:Hid (idxW l s 0=idxW (l.drop (k+1)) s (k+1)):=Hd (by rw[HU.out,if_neg (by rw[hq];simp)])
    clear HU
    go_wp2
    refine ⟨⟨k+1,rfl,hlt,HU2,trivial⟩,?_⟩
    simp[intOf];omega
   ·have HU2:Hid (idxW l s 0=(k:Int)):=Hd (by rw[HU.out,if_pos hq])
    clear HU
    go_wp2
    go_ret
    exact ⟨ret_num HU2.out.symm,rfl⟩
  ·obtain rfl:k=l.length:=by omega
   have HU2:Hid (idxW l s 0=-1):=Hd (by rw[HT.out,List.drop_length];rfl)
   clear HT hc
   go_wp2
   go_ret
   exact ⟨ret_num HU2.out.symm,rfl⟩
theorem turns_gAny (w:World):Calls Tryz.prog 94 #[.string gAny] w (fun e w'=>e=.returned (.bool true)∧w=w'):=by
 go_enter Tryz.func94,Tryz.ntmps94
 go_wp2
 go_ret
 exact ⟨rfl,rfl⟩
theorem turns_gAll (w:World):Calls Tryz.prog 94 #[.string gAll] w (fun e w'=>e=.returned (.bool true)∧w=w'):=by
 go_enter Tryz.func94,Tryz.ntmps94
 go_wp2
 go_ret
 exact ⟨rfl,rfl⟩
theorem turns_gMap (w:World):Calls Tryz.prog 94 #[.string gMap] w (fun e w'=>e=.returned (.bool true)∧w=w'):=by
 go_enter Tryz.func94,Tryz.ntmps94
 go_wp2
 go_ret
 exact ⟨rfl,rfl⟩
theorem turns_gPick (w:World):Calls Tryz.prog 94 #[.string gPick] w (fun e w'=>e=.returned (.bool true)∧w=w'):=by
 go_enter Tryz.func94,Tryz.ntmps94
 go_wp2
 go_ret
 exact ⟨rfl,rfl⟩
theorem turns_gLen (w:World):Calls Tryz.prog 94 #[.string gLen] w (fun e w'=>e=.returned (.bool false)∧w=w'):=by
 go_enter Tryz.func94,Tryz.ntmps94
 go_wp2
 go_ret
 exact ⟨rfl,rfl⟩
theorem turns_gKind (w:World):Calls Tryz.prog 94 #[.string gKind] w (fun e w'=>e=.returned (.bool false)∧w=w'):=by
 go_enter Tryz.func94,Tryz.ntmps94
 go_wp2
 go_ret
 exact ⟨rfl,rfl⟩
theorem turns_gKeys (w:World):Calls Tryz.prog 94 #[.string gKeys] w (fun e w'=>e=.returned (.bool false)∧w=w'):=by
 go_enter Tryz.func94,Tryz.ntmps94
 go_wp2
 go_ret
 exact ⟨rfl,rfl⟩
theorem turns_gFirst (w:World):Calls Tryz.prog 94 #[.string gFirst] w (fun e w'=>e=.returned (.bool false)∧w=w'):=by
 go_enter Tryz.func94,Tryz.ntmps94
 go_wp2
 go_ret
 exact ⟨rfl,rfl⟩
theorem turns_gLast (w:World):Calls Tryz.prog 94 #[.string gLast] w (fun e w'=>e=.returned (.bool false)∧w=w'):=by
 go_enter Tryz.func94,Tryz.ntmps94
 go_wp2
 go_ret
 exact ⟨rfl,rfl⟩
theorem turns_gSum (w:World):Calls Tryz.prog 94 #[.string gSum] w (fun e w'=>e=.returned (.bool false)∧w=w'):=by
 go_enter Tryz.func94,Tryz.ntmps94
 go_wp2
 go_ret
 exact ⟨rfl,rfl⟩
theorem turns_gLeast (w:World):Calls Tryz.prog 94 #[.string gLeast] w (fun e w'=>e=.returned (.bool false)∧w=w'):=by
 go_enter Tryz.func94,Tryz.ntmps94
 go_wp2
 go_ret
 exact ⟨rfl,rfl⟩
theorem turns_gMost (w:World):Calls Tryz.prog 94 #[.string gMost] w (fun e w'=>e=.returned (.bool false)∧w=w'):=by
 go_enter Tryz.func94,Tryz.ntmps94
 go_wp2
 go_ret
 exact ⟨rfl,rfl⟩
theorem turns_gHas (w:World):Calls Tryz.prog 94 #[.string gHas] w (fun e w'=>e=.returned (.bool false)∧w=w'):=by
 go_enter Tryz.func94,Tryz.ntmps94
 go_wp2
 go_ret
 exact ⟨rfl,rfl⟩
def AskPost (S:Nat→Prop) (bw:Nat) (r:Out×Nat) (w:World) (e:Ending) (w':World):Prop:=Aside bw w w'∧Hold w' bw 0 (.int .i64 r.2)∧match r.1 with
 | .val x=>∃v,e=.returned v∧RdS w' (fun b=>S b∨New w w' b) x v
 | .gone a why=>e=.panicked [{ v:=faultV a why,recovered:=false }]
end Go.Proofs.YtbemeapjeipjlaaGreatDoor
