/- A region that draws its order and whose last operation waits for all others: S need not hold behind that one. -/
import Derived.Test.YtbemeapjeipjlaaGreatDoorQN11
import Derived.Test.YtbemeapjeipjlaaGreatDoorQN34
import Derived.Laws.AppendOwnNone
set_option linter.unusedVariables false
set_option linter.unusedSimpArgs false
set_option linter.unusedSectionVars false
namespace Go.Proofs.YtbemeapjeipjlaaGreatDoor
open Go Go.RowKit
set_option maxRecDepth 100000
set_option maxHeartbeats 8000000
section
variable {P:Program} {l:List Oper} {o:Oper} {Q:Exit→Act→World→Prop}
def lastQ (P:Program) (o:Oper) (Q:Exit→Act→World→Prop):Exit→Act→World→Prop
 | .normal,a,w=>o.wp P a w (fun a' w'=>Q .normal a' w') Q
 | e,a,w=>Q e a w
def lastB (l:List Oper) (o:Oper):Bool:=
 o.guard.isNone&&(o.after.toList.all fun e=>decide (e.on<l.length))&&((List.range l.length).all fun i=>o.after.toList.any fun e=>Region.binds .any e&&decide (e.on=i)) &&
  ((List.range l.length).all fun i=>match l[i]? with
   | none=>true
   | some p=>p.guard.isNone&&p.after.toList.all fun e=>decide (e.on<i))
theorem lastB_spec (h:lastB l o=true):(o.guard=none∧∀e∈o.after.toList,e.on<l.length)∧(∀i,i<l.length→∃e∈o.after.toList,Region.binds .any e=true∧e.on=i)∧∀(i:Nat) p,l[i]?=some p→p.guard=none∧∀e∈p.after.toList,e.on<i:=by
 simp only[lastB,Bool.and_eq_true]at h
 obtain ⟨⟨⟨h1,h0⟩,h2⟩,h3⟩:=h
 refine ⟨⟨by simpa using h1,fun e he=>of_decide_eq_true (List.all_eq_true.1 h0 e he)⟩,fun i hi=>?_,fun i p hp=>?_⟩
 ·obtain ⟨e,he,h4⟩:=List.any_eq_true.1 (List.all_eq_true.1 h2 i (List.mem_range.2 hi))
  simp only[Bool.and_eq_true,decide_eq_true_eq]at h4
  exact ⟨e,he,h4.1,h4.2⟩
 ·have:=List.all_eq_true.1 h3 i (List.mem_range.2 (List.getElem?_eq_some_iff.1 hp).1)
  simp only[hp,Bool.and_eq_true]at this
  exact ⟨by simpa using this.1,fun e he=>of_decide_eq_true (List.all_eq_true.1 this.2 e he)⟩
theorem wp_lastQ {x:Oper} {a:Act} {w:World} {K:Act→World→Prop} (h:x.wp P a w K (lastQ P o Q)):x.wp P a w K Q:=by
 unfold Oper.wp at *
 generalize (execOp a.eval x).run P w=r at *
 cases r with
 | ok n w'=>cases n <;> simp only[Oper.upon]at h ⊢ <;> first
  | exact h
  | exact Calls.mono h (fun e w'' he=>by cases e <;> exact he)
 | halt y w'=>cases y <;> simp only[Oper.upon]at h ⊢ <;> exact h
theorem ready_iff {ops:Array Oper} {listed:Array Bool} {i:Nat}:i∈Region.ready .any ops listed↔∃x,ops[i]?=some x∧listed.getD i true=false∧∀e∈x.after.toList,Region.binds .any e=true→listed.getD e.on false=true:=by
 unfold Region.ready
 rw[List.mem_filter,List.mem_range]
 constructor
 ·rintro ⟨h1,h2⟩
  have ho:ops[i]?=some ops[i]:=Array.getElem?_eq_getElem h1
  rw[ho]at h2
  simp only[Option.map_some,Option.getD_some,Bool.and_eq_true]at h2
  refine ⟨_,ho,by simpa using h2.1,fun e he hb=>?_⟩
  have:=(Array.all_eq_true'.1 h2.2) e (by simpa using he)
  rw[hb]at this
  simpa using this
 ·rintro ⟨x,hx,h1,h2⟩
  refine ⟨(Array.getElem?_eq_some_iff.1 hx).1,?_⟩
  rw[hx]
  simp only[Option.map_some,Option.getD_some,Bool.and_eq_true]
  refine ⟨by rw[h1];rfl,?_⟩
  rw[Array.all_eq_true']
  intro e he
  cases hb:Region.binds .any e with
  | false=>rfl
  | true=>simpa using h2 e (by simpa using he) hb
theorem push_getD {listed:Array Bool} {i:Nat} {d:Bool} (h:i<listed.size):(listed.push false).getD i d=listed.getD i d:=by
 rw[Array.getD_eq_getD_getElem?,Array.getD_eq_getD_getElem?,Array.getElem?_push,if_neg (by omega)]
theorem ready_sub (hB:lastB l o=true) {listed:Array Bool} (hs:listed.size=l.length) {i:Nat} (hi:i<l.length):i∈Region.ready .any (l++[o]).toArray (listed.push false)↔i∈Region.ready .any l.toArray listed:=by
 obtain ⟨_,_,h3⟩:=lastB_spec hB
 rw[ready_iff,ready_iff]
 have hx:∀x,(l++[o]).toArray[i]?=some x↔l.toArray[i]?=some x:=fun x=>by simp[List.getElem?_append_left hi]
 constructor
 ·rintro ⟨x,h1,h2,h4⟩
  have h1':=(hx x).1 h1
  refine ⟨x,h1',by rwa [push_getD (by omega)]at h2,fun e he hb=>?_⟩
  have:=h4 e he hb
  have hlt:=(h3 i x (by simpa using h1')).2 e he
  rwa [push_getD (by omega)]at this
 ·rintro ⟨x,h1,h2,h4⟩
  refine ⟨x,(hx x).2 h1,by rwa [push_getD (by omega)],fun e he hb=>?_⟩
  have hlt:=(h3 i x (by simpa using h1)).2 e he
  rw[push_getD (by omega)]
  exact h4 e he hb
theorem last_ready (hB:lastB l o=true) {listed:Array Bool} (hs:listed.size=l.length) (h:∀i,i<l.length→listed.getD i false=true):l.length∈Region.ready .any (l++[o]).toArray (listed.push false):=by
 obtain ⟨⟨_,h2⟩,_,_⟩:=lastB_spec hB
 rw[ready_iff]
 refine ⟨o,by simp,by rw[Array.getD_eq_getD_getElem?,Array.getElem?_push,if_pos (by omega)];rfl,fun e he _=>?_⟩
 have:=h2 e he
 rw[push_getD (by omega)]
 exact h e.on this
theorem last_all (hB:lastB l o=true) {listed:Array Bool} (hs:listed.size=l.length) (h:l.length∈Region.ready .any (l++[o]).toArray (listed.push false)):∀i,i<l.length→listed.getD i false=true:=by
 obtain ⟨_,h2,_⟩:=lastB_spec hB
 intro i hi
 obtain ⟨x,hx,_,h3⟩:=ready_iff.1 h
 obtain rfl:o=x:=by simpa using hx
 obtain ⟨e,he,hb,hon⟩:=h2 i hi
 have:=h3 e he hb
 rw[hon,push_getD (by omega)]at this
 exact this
theorem none_all (hB:lastB l o=true) {listed:Array Bool} (hs:listed.size=l.length) (h:Region.ready .any l.toArray listed=[]):∀i,i<l.length→listed.getD i false=true:=by
 obtain ⟨_,_,h3⟩:=lastB_spec hB
 intro i
 induction i using Nat.strongRecOn with
 | _ i ih =>
  intro hi
  cases hl:listed.getD i false with
  | true=>rfl
  | false =>
   exfalso
   have:i∈Region.ready .any l.toArray listed:=by
    refine ready_iff.2 ⟨l[i],by simp[hi],?_,fun e he _=>?_⟩
    ·have h4:i<listed.size:=by omega
     simp only[Array.getD,h4,dif_pos]at hl ⊢
     exact hl
    ·have hlt:=(h3 i _ (List.getElem?_eq_getElem hi)).2 e he
     exact ih e.on hlt (by omega)
   rw[h]at this
   cases this
theorem all_none (hB:lastB l o=true) {listed:Array Bool} (hs:listed.size=l.length) (h:∀i,i<l.length→listed.getD i false=true):Region.ready .any l.toArray listed=[]:=by
 cases hr:Region.ready .any l.toArray listed with
 | nil=>rfl
 | cons i r =>
  have:i∈Region.ready .any l.toArray listed:=by rw[hr];simp
  obtain ⟨x,hx,h2,_⟩:=ready_iff.1 this
  have hi:i<l.length:=by simpa using (Array.getElem?_eq_some_iff.1 hx).1
  have:=h i hi
  have h4:i<listed.size:=by omega
  simp only[Array.getD,h4,dif_pos]at h2 this
  rw[h2]at this;cases this
theorem done_none {listed:Array Bool} (hs:listed.size=l.length) (h:∀i,i<l.length→listed.getD i false=true):Region.ready .any (l++[o]).toArray ((listed.push false).setIfInBounds l.length true)=[]:=by
 cases hr:Region.ready .any (l++[o]).toArray ((listed.push false).setIfInBounds l.length true)with
 | nil=>rfl
 | cons i r =>
  have:i∈Region.ready .any (l++[o]).toArray ((listed.push false).setIfInBounds l.length true):=by rw[hr];simp
  obtain ⟨x,hx,h2,_⟩:=ready_iff.1 this
  have hi:i<l.length+1:=by simpa using (Array.getElem?_eq_some_iff.1 hx).1
  by_cases e:i=l.length
  ·subst e
   rw[Array.getD_eq_getD_getElem?,Array.getElem?_setIfInBounds,if_pos rfl,if_pos (by simp;omega)]at h2
   cases h2
  ·rw[Array.getD_eq_getD_getElem?,Array.getElem?_setIfInBounds_ne (by omega),←Array.getD_eq_getD_getElem?,push_getD (by omega)]at h2
   have:=h i (by omega)
   have h4:i<listed.size:=by omega
   simp only[Array.getD,h4,dif_pos]at h2 this
   rw[h2]at this;cases this
theorem last_op (hB:lastB l o=true) {listed:Array Bool} {a:Act} {w:World} (hs:listed.size=l.length) (h:∀i,i<l.length→listed.getD i false=true) (hQ:lastQ P o Q .normal a w) (fuel:Nat) :
  wpOp P (l++[o]).toArray Q l.length (wpAny P .any (l++[o]).toArray Q fuel ((listed.push false).setIfInBounds l.length true)) a w:=by
 obtain ⟨⟨hg,_⟩,_,_⟩:=lastB_spec hB
 have ho:(l++[o]).toArray[l.length]?=some o:=by simp
 unfold wpOp
 simp only[ho]
 rw[if_pos (by simp[Region.wanted,hg])]
 refine .inl (Oper.wp_mono (fun a' w' h'=>?_) hQ)
 have hd:=done_none (o:=o) hs h
 cases fuel with
 | zero=>exact ⟨hd,h'⟩
 | succ fuel=>exact ⟨fun _=>h',by rw[hd];simp⟩
theorem peel (hB:lastB l o=true):∀(fuel:Nat) (listed:Array Bool) (a:Act) (w:World),listed.size=l.length→wpAny P .any l.toArray (lastQ P o Q) fuel listed a w→wpAny P .any (l++[o]).toArray Q (fuel+1) (listed.push false) a w:=by
 intro fuel
 induction fuel with
 | zero =>
  intro listed a w hs h
  have hall:=none_all hB hs h.1
  refine ⟨fun hr=>?_,fun i hi=>?_⟩
  ·have:=last_ready hB hs hall;rw[hr]at this;cases this
  ·by_cases e:i=l.length
   ·subst e;exact last_op hB hs hall h.2 0
   ·obtain ⟨x,hx,_⟩:=ready_iff.1 hi
    have hlt:i<l.length:=by have:=(Array.getElem?_eq_some_iff.1 hx).1;simp at this;omega
    have:=(ready_sub hB hs hlt).1 hi
    rw[h.1]at this;cases this
 | succ fuel ih =>
  intro listed a w hs h
  refine ⟨fun hr=>?_,fun i hi=>?_⟩
  ·have hr1:Region.ready .any l.toArray listed=[]:=by
    cases hq:Region.ready .any l.toArray listed with
    | nil=>rfl
    | cons i r =>
     have hm:i∈Region.ready .any l.toArray listed:=by rw[hq];simp
     obtain ⟨x,hx,_⟩:=ready_iff.1 hm
     have hlt:i<l.length:=by simpa using (Array.getElem?_eq_some_iff.1 hx).1
     have:=(ready_sub hB hs hlt).2 hm
     rw[hr]at this;cases this
   have:=last_ready hB hs (none_all hB hs hr1);rw[hr]at this;cases this
  ·by_cases e:i=l.length
   ·subst e
    have hall:=last_all hB hs hi
    exact last_op hB hs hall (h.1 (all_none hB hs hall)) (fuel+1)
   ·obtain ⟨x,hx,_⟩:=ready_iff.1 hi
    have hlt:i<l.length:=by have:=(Array.getElem?_eq_some_iff.1 hx).1;simp at this;omega
    have h1:=h.2 i ((ready_sub hB hs hlt).1 hi)
    have ho1:l.toArray[i]?=some l[i]:=by simp[hlt]
    have ho2:(l++[o]).toArray[i]?=some l[i]:=by simp[List.getElem?_append_left hlt]
    obtain ⟨_,_,h3⟩:=lastB_spec hB
    have hg:=(h3 i _ (List.getElem?_eq_getElem hlt)).1
    unfold wpOp at h1 ⊢
    simp only[ho1]at h1
    simp only[ho2]
    rw[if_pos (by simp[Region.wanted,hg])]at h1 ⊢
    have hset:(listed.push false).setIfInBounds i true=(listed.setIfInBounds i true).push false:=by
     apply Array.ext_getElem?
     intro k
     rw[Array.getElem?_setIfInBounds,Array.getElem?_push,Array.getElem?_push,Array.getElem?_setIfInBounds]
     simp only[Array.size_push,Array.size_setIfInBounds]
     by_cases hk:i=k
     ·subst hk
      rw[if_pos rfl,if_pos (by omega),if_neg (by omega),if_pos rfl,if_pos (by omega)]
     ·rw[if_neg hk,if_neg hk]
    rcases h1 with h1|⟨h1,b,v,h2⟩
    ·refine .inl (Oper.wp_mono (fun a' w' h'=>?_) (wp_lastQ h1))
     rw[hset]
     exact ih _ a' w' (by simpa using hs) h'
    ·exact .inr ⟨h1,b,v,h2⟩
theorem wp_region_heldL {full:List Oper} {id:Nat} {a:Act} {w:World} (S:World→Prop) (k:Nat) (hs ts:List Nat) (hm:P.follows .mixedOrders=true) (hk:full[k]?=some o) (hfl:full.length=k+1) (hL:lastB (full.take k) o=true) (hB:heldIB (full.take k).toArray hs ts=true) (hQ1:∀c (a:Act) w (i:Nat) v,Q (.panic c) (a.put (some i) v) w→Q (.panic c) a w) (hS:S w.drew)
  (h:HdS P (full.take k).toArray S (fun a'=>SeqS P (full.take k).toArray S (lastQ P o Q) (pickI (full.take k) ts) a' w.drew) (pickI (full.take k) hs) a):(Code.region id full.toArray true).wp P Q a w:=by
 have hfull:full=full.take k++[o]:=by
  have h1:full.drop k=[o]:=by
   have:=(List.getElem?_eq_some_iff.1 hk)
   obtain ⟨h2,h3⟩:=this
   rw[List.drop_eq_getElem_cons h2,h3,List.drop_eq_nil_of_le (by omega)]
  calc full=full.take k++full.drop k:=(List.take_append_drop k full).symm
   _=_:=by rw[h1]
 generalize full.take k=l at *
 subst hfull
 have hQ:∀c a w d v,lastQ P o Q (.panic c) (a.put d v) w→lastQ P o Q (.panic c) a w:=by
  intro c a w d v h
  cases d with
  | none=>exact h
  | some i=>exact hQ1 c a w i v h
 simp only[heldIB,Bool.and_eq_true,decide_eq_true_eq,List.all_eq_true,List.size_toArray]at hB
 obtain ⟨⟨⟨⟨hsel,hn⟩,hh⟩,ht⟩,hlex⟩:=hB
 refine wp_region_any hm ?_
 have:=held_lexI (md:=.any) (t:=ts) hsel hQ (w:=w.drew) hS hs (Array.replicate l.length false) a hh hlex h.out
  (fun ls a' h1 h2=>seqS_anyI ts ls a' w.drew ht h1 h2.out)
 rw[hn]at this
 have h2:=peel hL l.length (Array.replicate l.length false) a w.drew (by simp) (wpAny_of_held _ _ _ _ this)
 have e:(Array.replicate l.length false).push false=Array.replicate ((l++[o]).toArray.size) false:=by
  apply Array.ext_getElem?
  intro j
  rw[Array.getElem?_push]
  simp only[Array.size_replicate,Array.getElem?_replicate,List.size_toArray,List.length_append,List.length_singleton]
  by_cases hj:j=l.length
  ·subst hj;simp
  ·rw[if_neg hj];by_cases h3:j<l.length
   ·rw[if_pos h3,if_pos (by omega)]
   ·rw[if_neg h3,if_neg (by omega)]
 rw[e]at h2
 have e2:(l++[o]).toArray.size=l.length+1:=by simp
 rw[e2]at h2 ⊢
 exact h2
end
attribute [local go_sem] ta_no_bool ta_yes_bool ta_nil_bool ta_no_int64 ta_yes_int64 ta_nil_int64 ta_no_flt ta_yes_flt ta_nil_flt ta_no_str ta_yes_str ta_nil_str ta_no_byt ta_yes_byt ta_nil_byt ta_no_ref ta_yes_ref ta_nil_ref ta_no_lst ta_yes_lst ta_nil_lst ta_no_dct ta_yes_dct ta_nil_dct ta_no_rec ta_yes_rec ta_nil_rec
theorem Tryz.infoTerm2:(Tryz.prog.info? 30).map (fun i=>(i.zero,i.size,i.bytes))=some (some (.agg #[.int .i64 0,.bool false,.int .i64 0,.float .f64 0,.string ⟨#[]⟩,.slice none 0 0,.int .u64 0,.slice none 0 0,.slice none 0 0,.string ⟨#[]⟩,.int .i64 0]),11,152):=by kernel_rfl
theorem Tryz.infoEntry2:(Tryz.prog.info? 37).map (fun i=>(i.zero,i.size,i.bytes))=some (some (.agg #[.string ⟨#[]⟩,.int .i64 0,.bool false,.int .i64 0,.float .f64 0,.string ⟨#[]⟩,.slice none 0 0,.int .u64 0,.slice none 0 0,.slice none 0 0,.string ⟨#[]⟩,.int .i64 0]),12,168):=by kernel_rfl
def PlainC (x:V):Prop:=∀(vv:Value) (d:Nat) (w:World),Rd w w.heap.size x vv→d≤401→Calls Tryz.prog 31 #[vv,.int .i64 d] w (TermPost (plainT x d) w)
def EntsPost (l:List (ByteArray×Tm)) (w:World) (e:Ending) (w':World):Prop:=∃A c,e=.returned (.slice A l.length c)∧RowsAt bearsE w' (New w w') A l∧Below w.heap.size w w'
theorem plain_far (x:V) (vv:Value) (d:Nat) (w:World) (hd:400<d):Calls Tryz.prog 31 #[vv,.int .i64 d] w (TermPost (plainT x d) w):=by
 have hT:plainT x d=.mk 0 false 0 0 ⟨#[]⟩ [] 0 [] [] ⟨#[]⟩ 0:=by cases x <;> rw[plainT,if_pos hd]
 rw[hT]
 have hq:decide ((400:Int)<(d:Int))=true:=by simp;omega
 have o0:=fun (W:World) (a:Addr) (m:Mode) (x:Nat)=>run_store Tryz.prog W a (.float .f64 x) m rfl
 go_enter Tryz.func31,Tryz.ntmps31
 go_wp2
 (try simp only[Exit.inBlock,Exit.then]);refine bodyPost_ret (v:=.agg #[.int .i64 0,.bool false,.int .i64 0,.float .f64 0,.string ⟨#[]⟩,.slice none 0 0,.int .u64 0,.slice none 0 0,.slice none 0 0,.string ⟨#[]⟩,.int .i64 0]) (by simp[results,Tryz.results31,go_sem]) rfl ?_
 exact ⟨[.int .i64 0,.bool false,.int .i64 0,.float .f64 0,.string ⟨#[]⟩,.slice none 0 0,.int .u64 0,.slice none 0 0,.slice none 0 0,.string ⟨#[]⟩,.int .i64 0],rfl,⟨none,0,none,0,none,0,rfl,⟨by decide,by decide⟩,⟨by decide,by decide⟩,by decide,by decide,⟨fun _=>rfl,.inl rfl⟩,by decide,by decide,by decide,⟨by decide,by decide⟩,⟨by decide,.inl rfl⟩,⟨by decide,.inl rfl⟩⟩,bnew⟩
theorem plain_bytes (A:Option Addr) (l:List UInt8) (c d:Nat) (w:World) (hd:d≤400) (hl:l.length≤140737488351232) (hA:A=none→c=0) (hb:ByteRow w (fun b=>b<w.heap.size) A l):Calls Tryz.prog 31 #[.iface 24 (.slice A l.length c),.int .i64 d] w (TermPost (plainT (.bytes l) d) w):=by
 have hT:plainT (.bytes l) d=.mk 6 false 0 0 ⟨#[]⟩ l 0 [] [] ⟨#[]⟩ 0:=by rw[plainT,if_neg (by omega)]
 rw[hT]
 obtain ⟨i0,hi0,hz0,hz1,hz2⟩:=info_parts Tryz.infoByte
 have hq:decide ((400:Int)<(d:Int))=false:=by simp;omega
 have o0:=fun (W:World) (a:Addr) (m:Mode) (x:Nat)=>run_store Tryz.prog W a (.float .f64 x) m rfl
 have hS:Below w.heap.size w ((w.alloc (.cells #[.int .i64 0,.bool false,.int .i64 0,.float .f64 0,.string ⟨#[]⟩,.slice none 0 0,.int .u64 0,.slice none 0 0,.slice none 0 0,.string ⟨#[]⟩,.int .i64 0] 30)).alloc (.cells #[] 5)):=bnew.alloc (by simp) _
 have hown:=ownsRow_empty (w.alloc (.cells #[.int .i64 0,.bool false,.int .i64 0,.float .f64 0,.string ⟨#[]⟩,.slice none 0 0,.int .u64 0,.slice none 0 0,.slice none 0 0,.string ⟨#[]⟩,.int .i64 0] 30)) (w.heap.size+1) 5 1 (by simp)
 simp at hown
 have hbs2:=hb.keep (fun p hp=>hS.cell hp)
 have hsz:((w.alloc (.cells #[.int .i64 0,.bool false,.int .i64 0,.float .f64 0,.string ⟨#[]⟩,.slice none 0 0,.int .u64 0,.slice none 0 0,.slice none 0 0,.string ⟨#[]⟩,.int .i64 0] 30)).alloc (.cells #[] 5)).heap.size=w.heap.size+2:=by simp
 clear hb
 cases A with
 | none =>
  obtain rfl:=hA rfl
  obtain rfl:l=[]:=by
   rcases hbs2 with h|⟨b,off,h,_⟩
   ·exact h
   ·cases h
  go_enter Tryz.func31,Tryz.ntmps31
  go_wp2
  (try simp only[Exit.inBlock,Exit.then]);refine bodyPost_ret (v:=.agg #[.int .i64 6,.bool false,.int .i64 0,.float .f64 0,.string ⟨#[]⟩,.slice (some ⟨w.heap.size+1,0,none⟩) 0 0,.int .u64 0,.slice none 0 0,.slice none 0 0,.string ⟨#[]⟩,.int .i64 0]) (by simp[results,Tryz.results31,go_sem]) rfl ?_
  refine ⟨[.int .i64 6,.bool false,.int .i64 0,.float .f64 0,.string ⟨#[]⟩,.slice (some ⟨w.heap.size+1,0,none⟩) 0 0,.int .u64 0,.slice none 0 0,.slice none 0 0,.string ⟨#[]⟩,.int .i64 0],rfl,⟨some ⟨w.heap.size+1,0,none⟩,0,none,0,none,0,rfl,⟨by decide,by decide⟩,⟨by decide,by decide⟩,by decide,by decide,⟨(fun h=>by cases h),.inl rfl⟩,by decide,by decide,by decide,⟨by decide,by decide⟩,⟨by decide,.inl rfl⟩,⟨by decide,.inl rfl⟩⟩,?_⟩
  exact bnew.alloc (by simp) _
 | some ad =>
  have hnews:=ByteRow.news hbs2
  go_enter Tryz.func31,Tryz.ntmps31
  go_wp2_with (at_builtin;go_must (refine wpList_append_own _ rfl (.tmp 46) (.tmp 47) 24 rfl (w.heap.size+1) 5 i0 _ 1 1 Tryz.underlying24 hi0 hz0 hz1 hz2 rfl (by omega) (.slice (some ⟨w.heap.size+1,0,none⟩) 0 0) 0 [] rfl hown ad l.length c (bvals l) rfl (by simp[bvals]) hnews (one_bvals l) (by simp only[maxLen];omega) (by omega) (by simp) ?_);intro v' w2 hown2 hg2 hnil;rw[Nat.zero_add,List.nil_append]at hown2;obtain ⟨A2,c2,rfl,hA2,hB2⟩:=bytes_of_row hown2;have hb2:=(Below.refl (w.heap.size+1) ((w.alloc (.cells #[.int .i64 0,.bool false,.int .i64 0,.float .f64 0,.string ⟨#[]⟩,.slice none 0 0,.int .u64 0,.slice none 0 0,.slice none 0 0,.string ⟨#[]⟩,.int .i64 0] 30)).alloc (.cells #[] 5))).grown hg2 (by simp) (fun j hj=>by simp[Value.ownBlock]at hj;omega);have cc0:w2.cell? ⟨w.heap.size,0,none⟩=some (.int .i64 0):=(hb2.cell (p:=⟨w.heap.size,0,none⟩) (show w.heap.size<w.heap.size+1 by omega)).trans (by simp[go_sem]);have cc1:w2.cell? ⟨w.heap.size,1,none⟩=some (.bool false):=(hb2.cell (p:=⟨w.heap.size,1,none⟩) (show w.heap.size<w.heap.size+1 by omega)).trans (by simp[go_sem]);have cc2:w2.cell? ⟨w.heap.size,2,none⟩=some (.int .i64 0):=(hb2.cell (p:=⟨w.heap.size,2,none⟩) (show w.heap.size<w.heap.size+1 by omega)).trans (by simp[go_sem]);have cc3:w2.cell? ⟨w.heap.size,3,none⟩=some (.float .f64 0):=(hb2.cell (p:=⟨w.heap.size,3,none⟩) (show w.heap.size<w.heap.size+1 by omega)).trans (by simp[go_sem]);have cc4:w2.cell? ⟨w.heap.size,4,none⟩=some (.string ⟨#[]⟩):=(hb2.cell (p:=⟨w.heap.size,4,none⟩) (show w.heap.size<w.heap.size+1 by omega)).trans (by simp[go_sem]);have cc5:w2.cell? ⟨w.heap.size,5,none⟩=some (.slice none 0 0):=(hb2.cell (p:=⟨w.heap.size,5,none⟩) (show w.heap.size<w.heap.size+1 by omega)).trans (by simp[go_sem]);have cc6:w2.cell? ⟨w.heap.size,6,none⟩=some (.int .u64 0):=(hb2.cell (p:=⟨w.heap.size,6,none⟩) (show w.heap.size<w.heap.size+1 by omega)).trans (by simp[go_sem]);have cc7:w2.cell? ⟨w.heap.size,7,none⟩=some (.slice none 0 0):=(hb2.cell (p:=⟨w.heap.size,7,none⟩) (show w.heap.size<w.heap.size+1 by omega)).trans (by simp[go_sem]);have cc8:w2.cell? ⟨w.heap.size,8,none⟩=some (.slice none 0 0):=(hb2.cell (p:=⟨w.heap.size,8,none⟩) (show w.heap.size<w.heap.size+1 by omega)).trans (by simp[go_sem]);have cc9:w2.cell? ⟨w.heap.size,9,none⟩=some (.string ⟨#[]⟩):=(hb2.cell (p:=⟨w.heap.size,9,none⟩) (show w.heap.size<w.heap.size+1 by omega)).trans (by simp[go_sem]);have cc10:w2.cell? ⟨w.heap.size,10,none⟩=some (.int .i64 0):=(hb2.cell (p:=⟨w.heap.size,10,none⟩) (show w.heap.size<w.heap.size+1 by omega)).trans (by simp[go_sem]);have ff0:w2.frozen? ⟨w.heap.size,0,none⟩=false:=(hb2.frozen (p:=⟨w.heap.size,0,none⟩) (show w.heap.size<w.heap.size+1 by omega)).trans (by simp[go_sem]);have ff1:w2.frozen? ⟨w.heap.size,1,none⟩=false:=(hb2.frozen (p:=⟨w.heap.size,1,none⟩) (show w.heap.size<w.heap.size+1 by omega)).trans (by simp[go_sem]);have ff2:w2.frozen? ⟨w.heap.size,2,none⟩=false:=(hb2.frozen (p:=⟨w.heap.size,2,none⟩) (show w.heap.size<w.heap.size+1 by omega)).trans (by simp[go_sem]);have ff3:w2.frozen? ⟨w.heap.size,3,none⟩=false:=(hb2.frozen (p:=⟨w.heap.size,3,none⟩) (show w.heap.size<w.heap.size+1 by omega)).trans (by simp[go_sem]);have ff4:w2.frozen? ⟨w.heap.size,4,none⟩=false:=(hb2.frozen (p:=⟨w.heap.size,4,none⟩) (show w.heap.size<w.heap.size+1 by omega)).trans (by simp[go_sem]);have ff5:w2.frozen? ⟨w.heap.size,5,none⟩=false:=(hb2.frozen (p:=⟨w.heap.size,5,none⟩) (show w.heap.size<w.heap.size+1 by omega)).trans (by simp[go_sem]);have ff6:w2.frozen? ⟨w.heap.size,6,none⟩=false:=(hb2.frozen (p:=⟨w.heap.size,6,none⟩) (show w.heap.size<w.heap.size+1 by omega)).trans (by simp[go_sem]);have ff7:w2.frozen? ⟨w.heap.size,7,none⟩=false:=(hb2.frozen (p:=⟨w.heap.size,7,none⟩) (show w.heap.size<w.heap.size+1 by omega)).trans (by simp[go_sem]);have ff8:w2.frozen? ⟨w.heap.size,8,none⟩=false:=(hb2.frozen (p:=⟨w.heap.size,8,none⟩) (show w.heap.size<w.heap.size+1 by omega)).trans (by simp[go_sem]);have ff9:w2.frozen? ⟨w.heap.size,9,none⟩=false:=(hb2.frozen (p:=⟨w.heap.size,9,none⟩) (show w.heap.size<w.heap.size+1 by omega)).trans (by simp[go_sem]);have ff10:w2.frozen? ⟨w.heap.size,10,none⟩=false:=(hb2.frozen (p:=⟨w.heap.size,10,none⟩) (show w.heap.size<w.heap.size+1 by omega)).trans (by simp[go_sem]))
  (try simp only[Exit.inBlock,Exit.then]);refine bodyPost_ret (v:=.agg #[.int .i64 6,.bool false,.int .i64 0,.float .f64 0,.string ⟨#[]⟩,.slice A2 l.length c2,.int .u64 0,.slice none 0 0,.slice none 0 0,.string ⟨#[]⟩,.int .i64 0]) (by simp[results,Tryz.results31,go_sem,cc0,cc1,cc2,cc3,cc4,cc5,cc6,cc7,cc8,cc9,cc10]) rfl ?_
  have hsz2:w.heap.size+2≤w2.heap.size:=by have:=hg2.size;rw[hsz]at this;exact this
  have hkeep:∀p:Addr,p.block≠w.heap.size→(((((((((((w2.setCell ⟨w.heap.size,0,none⟩ (.int .i64 6)).setCell ⟨w.heap.size,1,none⟩ (.bool false)).setCell ⟨w.heap.size,2,none⟩ (.int .i64 0)).setCell ⟨w.heap.size,3,none⟩ (.float .f64 0)).setCell ⟨w.heap.size,4,none⟩ (.string ⟨#[]⟩)).setCell ⟨w.heap.size,5,none⟩ (.slice A2 l.length c2)).setCell ⟨w.heap.size,6,none⟩ (.int .u64 0)).setCell ⟨w.heap.size,7,none⟩ (.slice none 0 0)).setCell ⟨w.heap.size,8,none⟩ (.slice none 0 0)).setCell ⟨w.heap.size,9,none⟩ (.string ⟨#[]⟩)).setCell ⟨w.heap.size,10,none⟩ (.int .i64 0)).cell? p=w2.cell? p:=by
   intro p h1
   have g1:∀o,(⟨w.heap.size,o,none⟩:Addr)≠p:=fun o h=>h1 (by rw[←h])
   rw[World.cell?_setCell_other _ _ _ _ (g1 _),World.cell?_setCell_other _ _ _ _ (g1 _),World.cell?_setCell_other _ _ _ _ (g1 _),World.cell?_setCell_other _ _ _ _ (g1 _),World.cell?_setCell_other _ _ _ _ (g1 _),World.cell?_setCell_other _ _ _ _ (g1 _),World.cell?_setCell_other _ _ _ _ (g1 _),World.cell?_setCell_other _ _ _ _ (g1 _),World.cell?_setCell_other _ _ _ _ (g1 _),World.cell?_setCell_other _ _ _ _ (g1 _),World.cell?_setCell_other _ _ _ _ (g1 _)]
  have hbw:Below w.heap.size w w2:=hS.trans (hb2.mono (by omega))
  refine ⟨[.int .i64 6,.bool false,.int .i64 0,.float .f64 0,.string ⟨#[]⟩,.slice A2 l.length c2,.int .u64 0,.slice none 0 0,.slice none 0 0,.string ⟨#[]⟩,.int .i64 0],rfl,⟨A2,c2,none,0,none,0,rfl,⟨by decide,by decide⟩,⟨by decide,by decide⟩,by decide,hl,⟨hA2,?_⟩,by decide,by decide,by decide,⟨by decide,by decide⟩,⟨by decide,.inl rfl⟩,⟨by decide,.inl rfl⟩⟩,?_⟩
  ·exact ByteRow.more (ByteRow.keep hB2 (fun p hp=>hkeep p (by have:=hp.1;omega))) (fun b hb=>⟨by have:=hb.1;omega,by simp;exact hb.2⟩)
  ·exact (((((((((((hbw.setCell (p:=⟨w.heap.size,0,none⟩) (Nat.le_refl _) (.int .i64 6)).setCell (p:=⟨w.heap.size,1,none⟩) (Nat.le_refl _) (.bool false)).setCell (p:=⟨w.heap.size,2,none⟩) (Nat.le_refl _) (.int .i64 0)).setCell (p:=⟨w.heap.size,3,none⟩) (Nat.le_refl _) (.float .f64 0)).setCell (p:=⟨w.heap.size,4,none⟩) (Nat.le_refl _) (.string ⟨#[]⟩)).setCell (p:=⟨w.heap.size,5,none⟩) (Nat.le_refl _) (.slice A2 l.length c2)).setCell (p:=⟨w.heap.size,6,none⟩) (Nat.le_refl _) (.int .u64 0)).setCell (p:=⟨w.heap.size,7,none⟩) (Nat.le_refl _) (.slice none 0 0)).setCell (p:=⟨w.heap.size,8,none⟩) (Nat.le_refl _) (.slice none 0 0)).setCell (p:=⟨w.heap.size,9,none⟩) (Nat.le_refl _) (.string ⟨#[]⟩)).setCell (p:=⟨w.heap.size,10,none⟩) (Nat.le_refl _) (.int .i64 0))
end Go.Proofs.YtbemeapjeipjlaaGreatDoor
