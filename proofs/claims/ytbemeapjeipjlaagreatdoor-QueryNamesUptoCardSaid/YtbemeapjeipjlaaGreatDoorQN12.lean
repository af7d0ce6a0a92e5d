/- What an asking answers is of kinds that can be, and no greater than a value may be. -/
import Derived.Test.YtbemeapjeipjlaaGreatDoorQN10
import Derived.Test.YtbemeapjeipjlaaGreatDoorQN09
import Derived.Test.YtbemeapjeipjlaaGreatDoorQN11
set_option linter.unusedVariables false
set_option linter.unusedSimpArgs false
namespace Go.Proofs.YtbemeapjeipjlaaGreatDoor
open Go Go.RowKit
set_option maxRecDepth 100000
set_option maxHeartbeats 8000000
mutual
def tameV:V→Prop
 | .text s=>s.size≤65536
 | .bytes l=>l.length≤65536
 | .list l=>l.length≤16384∧tameL l
 | .dict l=>tameD l
 | .record _ _ l=>tameD l
 | .nothing=>False
 | .alien=>False
 | .nil=>True
 | .bool _=>True
 | .int _=>True
 | .flt _=>True
 | .ref _=>True
def tameL:List V→Prop
 | []=>True
 | x :: r=>tameV x∧tameL r
def tameD:List (ByteArray×V)→Prop
 | []=>True
 | (_,x) :: r=>tameV x∧tameD r
end
theorem tameL_iff {l:List V}:tameL l↔∀x∈l,tameV x:=by
 induction l with
 | nil=>simp[tameL]
 | cons x r ih=>simp[tameL,ih]
theorem own_text_le {s:ByteArray} {n d:Nat} (h:ownV (.text s) n d=0):s.size≤65536:=by
 unfold ownV at h
 split at h
 ·cases h
 ·simp only at h;split at h
  ·cases h
  ·omega
theorem own_bytes_le {l:List UInt8} {n d:Nat} (h:ownV (.bytes l) n d=0):l.length≤65536:=by
 unfold ownV at h
 split at h
 ·cases h
 ·simp only at h;split at h
  ·cases h
  ·omega
theorem own_list_le {l:List V} {n d:Nat} (h:ownV (.list l) n d=0):l.length≤4096:=by
 unfold ownV at h
 split at h
 ·cases h
 ·simp only at h;split at h
  ·cases h
  ·omega
theorem partL_tame (l:List V) (ih:∀x∈l,∀d s,(partV x d s).1=true→tameV x):∀d s,(partL l d s).1=true→tameL l:=by
 induction l with
 | nil=>intro d s _;exact trivial
 | cons x r ihr =>
  intro d s h
  obtain ⟨h1,h2⟩:=then_fine h
  exact ⟨ih x (by simp) _ _ h1,ihr (fun y hy=>ih y (by simp[hy])) _ _ h2⟩
theorem partD_tame (l:List (ByteArray×V)) (ih:∀p∈l,∀d s,(partV p.2 d s).1=true→tameV p.2):∀d s,(partD l d s).1=true→tameD l:=by
 induction l with
 | nil=>intro d s _;exact trivial
 | cons p r ihr =>
  obtain ⟨n,x⟩:=p
  intro d s h
  obtain ⟨h1,h2⟩:=then_fine h
  exact ⟨ih (n,x) (by simp) _ _ h1,ihr (fun y hy=>ih y (by simp[hy])) _ _ h2⟩
theorem part_tame (x:V):∀d s,(partV x d s).1=true→tameV x:=by
 induction x using V.ind with
 | h0=>intro d s _;trivial
 | h1=>intro d s _;trivial
 | h2=>intro d s _;trivial
 | h3=>intro d s _;trivial
 | h4=>intro d s h;exact own_text_le (step_fine h).1
 | h5=>intro d s h;exact own_bytes_le (step_fine h).1
 | h6=>intro d s _;trivial
 | h7 l ih=>intro d s h;exact ⟨by have:=own_list_le (step_fine h).1;omega,partL_tame l ih _ _ (step_fine h).2⟩
 | h8 l ih=>intro d s h;exact partD_tame l ih _ _ (step_fine h).2
 | h9 c v l ih=>intro d s h;exact partD_tame l ih _ _ (step_fine h).2
 | h10=>intro d s h;exact absurd rfl (own_kind (step_fine h).1).1
 | h11=>intro d s h;exact absurd rfl (own_kind (step_fine h).1).2
theorem okV_tame {x:V} (h:okV x):tameV x:=part_tame x _ _ h
theorem tame_kind {x:V} (h:tameV x):kindV x≠11:=by cases x <;> first|exact h.elim|(simp[kindV])
def TameO (o:Out):Prop:=∀x,o=.val x→tameV x
theorem TameO.gone (a:Int) (w:Nat):TameO (.gone a w):=fun x h=>by cases h
theorem TameO.val {x:V} (h:tameV x):TameO (.val x):=fun y e=>by injection e with e;subst e;exact h
theorem fields_tame {x:V} {l:List (ByteArray×V)} (h:tameV x) (hf:fieldsOf x=some l):tameD l:=by
 cases x <;> first|(injection hf with hf;subst hf;exact h)|cases hf
theorem under_tame {l:List (ByteArray×V)} {s:ByteArray} (h:tameD l):tameV ((underV l s).getD .nil):=by
 induction l with
 | nil=>exact trivial
 | cons p r ih =>
  obtain ⟨n,x⟩:=p
  rw[underV]
  split
  ·exact h.1
  ·exact ih h.2
theorem field_tame {a:Int} {v:V} {s:ByteArray} (h:tameV v):TameO (fieldV a v s):=by
 unfold fieldV
 cases hf:fieldsOf v with
 | none=>exact TameO.gone _ _
 | some l=>exact TameO.val (under_tame (fields_tame h hf))
theorem good_tame {a:Int} {x:V}:TameO (goodV a x):=by
 unfold goodV
 split
 ·rename_i h;exact TameO.val (okV_tame (okV_check.2 h))
 ·exact TameO.gone _ _
theorem held_tame {op:ByteArray} {a:Int} {x y:V}:TameO (heldV op a x y):=by
 unfold heldV
 repeat' split
 all_goals first|exact TameO.gone _ _|exact TameO.val trivial
theorem joined_tame {a:Int} {x y:V}:TameO (joinedV a x y):=by
 unfold joinedV
 split <;> first|exact good_tame|exact TameO.gone _ _
theorem intOut_tame {a:Int} {r:Option Int}:TameO (intOut a r):=by
 cases r <;> first|exact TameO.gone _ _|exact TameO.val trivial
theorem reckon_tame {op:ByteArray} {a:Int} {x y:V}:TameO (reckonV op a x y):=by
 unfold reckonV
 split
 ·exact intOut_tame
 ·split
  ·split <;> first|exact TameO.gone _ _|exact TameO.val trivial
  ·split
   ·exact joined_tame
   ·exact TameO.gone _ _
theorem neg_tame {a:Int} {x:V}:TameO (negV a x):=by
 unfold negV
 split
 ·split <;> first|exact TameO.gone _ _|exact TameO.val trivial
 ·exact TameO.val trivial
 ·exact TameO.gone _ _
theorem not_tame {a:Int} {x:V}:TameO (notV a x):=by
 unfold notV
 split <;> first|exact TameO.gone _ _|exact TameO.val trivial
theorem getD_tame {l:List V} (h:tameL l) (k:Nat):tameV (l.getD k .nil):=by
 rw[List.getD_eq_getElem?_getD]
 cases hk:l[k]? with
 | none=>exact trivial
 | some x=>exact tameL_iff.1 h x (List.mem_of_getElem? hk)
theorem place_tame {a:Int} {x y:V} (h:tameV x):TameO (placeV' a x y):=by
 unfold placeV'
 split
 ·split
  ·refine TameO.val ?_
   unfold placeAt
   split
   ·split
    ·trivial
    ·exact getD_tame h.2 _
   ·exact getD_tame h.2 _
  ·exact TameO.gone _ _
 ·split
  ·exact field_tame h
  ·exact TameO.gone _ _
theorem within_tame {a:Int} {x y:V}:TameO (withinV a x y):=by
 unfold withinV
 split
 ·exact TameO.val trivial
 ·split <;> first|exact TameO.gone _ _|exact TameO.val trivial
theorem length_tame {a:Int} {x:V}:TameO (lengthV a x):=by
 unfold lengthV
 split
 ·exact TameO.val trivial
 ·exact TameO.val trivial
 ·exact TameO.val trivial
 ·split <;> first|exact TameO.gone _ _|exact TameO.val trivial
theorem keys_tame {a:Int} {x:V}:TameO (keysV a x):=by
 unfold keysV
 split <;> first|exact good_tame|exact TameO.gone _ _
theorem has_tame {a:Int} {x y:V}:TameO (hasV a x y):=by
 unfold hasV
 split <;> first|exact TameO.gone _ _|exact TameO.val trivial
theorem sum_tame {a:Int}:∀(l:List V) (n:V),tameV n→TameO (sumV a l n)
 | [],n,h=>TameO.val h
 | x :: r,n,h=>by
  rw[sumV]
  split
  ·exact TameO.gone _ _
  ·split
   ·rename_i m hm;exact sum_tame r m (reckon_tame m hm)
   ·exact TameO.gone _ _
theorem lead_tame {a:Int} {most:Bool}:∀(l:List V) (n:V),tameL l→tameV n→TameO (leadV a most l n)
 | [],n,_,h=>TameO.val h
 | x :: r,n,hl,h=>by
  rw[leadV]
  split
  ·exact TameO.gone _ _
  ·refine lead_tame r _ hl.2 ?_
   split
   ·exact hl.1
   ·exact h
theorem listed_tame {nm:ByteArray} {a:Int} {l:List V} (h:tameL l):TameO (listedV nm a l):=by
 unfold listedV
 split
 ·exact sum_tame _ _ trivial
 ·split
  ·exact TameO.val trivial
  ·rename_i x r
   split
   ·exact TameO.val h.1
   ·split
    ·refine TameO.val ?_
     rw[List.getLastD_eq_getLast?,List.getLast?_eq_getElem?]
     rw[←List.getD_eq_getElem?_getD]
     exact getD_tame h _
    ·split
     ·exact TameO.gone _ _
     ·exact lead_tame _ _ h.2 h.1
theorem pair_tame {op:ByteArray} {a:Int} {x y:V} (h:tameV x):TameO (pairV op a x y):=by
 unfold pairV
 split
 ·exact place_tame h
 ·split
  ·exact within_tame
  ·split
   ·exact reckon_tame
   ·exact held_tame
def TameA (f:Ask):Prop:=∀v n,tameV v→TameO (f v n).1
theorem bind_tame {r:Out×Nat} {K:V→Nat→Out×Nat} (hr:TameO r.1) (hK:∀x m,tameV x→TameO (K x m).1):TameO (bindA r K).1:=by
 unfold bindA
 cases h:r.1 with
 | val x=>exact hK x _ (hr x h)
 | gone a w=>exact TameO.gone _ _
theorem subA_tame {l:List Ask} (h:∀f∈l,TameA f) (i:Nat):TameA (subA l i):=by
 unfold subA
 rw[List.getD_eq_getElem?_getD]
 cases hk:l[i]? with
 | none=>intro v n _;exact TameO.gone _ _
 | some f=>exact h f (List.mem_of_getElem? hk)
theorem logic_tame {a:Int} {or:Bool}:∀(l:List Ask) (v:V) (n:Nat),(∀f∈l,TameA f)→tameV v→TameO (logicA a or l v n).1
 | [],_,_,_,_=>TameO.val trivial
 | f :: r,v,n,h,hv=>by
  rw[logicA]
  refine bind_tame (h f (by simp) v n hv) fun x m hx=>?_
  split
  ·split
   ·exact TameO.val trivial
   ·exact logic_tame r v m (fun g hg=>h g (by simp[hg])) hv
  ·exact TameO.gone _ _
theorem list_tame {a:Int}:∀(l:List Ask) (v:V) (o:List V) (n:Nat),(∀f∈l,TameA f)→tameV v→TameO (listA a l v o n).1
 | [],_,_,_,_,_=>good_tame
 | f :: r,v,o,n,h,hv=>by
  rw[listA]
  exact bind_tame (h f (by simp) v n hv) fun x m hx=>list_tame r v _ m (fun g hg=>h g (by simp[hg])) hv
theorem each_tame {nm:ByteArray} {a:Int} {f:Ask} (hf:TameA f):∀(l o:List V) (n:Nat),tameL l→TameO (eachA nm a f l o n).1
 | [],o,n,_=>by
  rw[eachA]
  simp only
  split
  ·exact TameO.val trivial
  ·split
   ·exact TameO.val trivial
   ·exact good_tame
 | x :: r,o,n,hl=>by
  rw[eachA]
  refine bind_tame (hf x n hl.1) fun y m hy=>?_
  split
  ·exact each_tame hf r _ m hl.2
  ·split
   ·split
    ·exact TameO.val trivial
    ·split
     ·exact TameO.val trivial
     ·split
      ·exact each_tame hf r _ m hl.2
      ·exact each_tame hf r _ m hl.2
   ·exact TameO.gone _ _
theorem kindWords_tame (k:Nat):tameV (.text (kindWords.getD k ⟨#[]⟩)):=by
 show (kindWords.getD k ⟨#[]⟩).size≤65536
 by_cases hk:k<11
 ·have:k=0∨k=1∨k=2∨k=3∨k=4∨k=5∨k=6∨k=7∨k=8∨k=9∨k=10:=by omega
  rcases this with rfl|rfl|rfl|rfl|rfl|rfl|rfl|rfl|rfl|rfl|rfl <;> decide
 ·rw[List.getD_eq_getElem?_getD,List.getElem?_eq_none (by show 11≤k;omega)];decide
theorem call_tame {nm:ByteArray} {a:Int} {l:List Ask} {v:V} {n:Nat} (h:∀f∈l,TameA f) (hv:tameV v):TameO (callA nm a l v n).1:=by
 unfold callA
 refine bind_tame (subA_tame h 0 v n hv) fun x m hx=>?_
 split
 ·split
  ·exact each_tame (subA_tame h 1) _ _ _ hx.2
  ·exact TameO.gone _ _
 ·split
  ·exact length_tame
  ·split
   ·exact TameO.val (kindWords_tame _)
   ·split
    ·exact keys_tame
    ·split
     ·exact bind_tame (subA_tame h 1 v m hv) fun y k _=>has_tame
     ·simp only
      split
      ·exact listed_tame hx.2
      ·exact TameO.gone _ _
theorem literal_tame {t:Tm}:tameV (literalV t):=by
 unfold literalV
 split
 ·rename_i h;exact okV_tame (okV_check.2 h)
 ·trivial
theorem TameO.ite {c:Prop} [Decidable c] {x y:Out×Nat} (h1:c→TameO x.1) (h2:¬c→TameO y.1):TameO (if c then x else y).1:=by
 by_cases h:c
 ·rw[if_pos h];exact h1 h
 ·rw[if_neg h];exact h2 h
theorem step_tame {op:ByteArray} {a:Int} {nm:ByteArray} {t:Tm} {l:List Ask} (h:∀f∈l,TameA f):TameA (stepA op a nm t l):=by
 intro v n hv
 unfold stepA
 by_cases h0:1048576<n+1
 ·rw[if_pos h0];exact TameO.gone _ _
 rw[if_neg h0]
 refine TameO.ite (fun _=>TameO.val literal_tame) fun _=>?_
 refine TameO.ite (fun _=>TameO.val hv) fun _=>?_
 refine TameO.ite (fun _=>field_tame hv) fun _=>?_
 refine TameO.ite (fun _=>bind_tame (subA_tame h 0 v _ hv) fun x m hx=>field_tame hx) fun _=>?_
 refine TameO.ite (fun _=>logic_tame l v _ h hv) fun _=>?_
 refine TameO.ite (fun _=>logic_tame l v _ h hv) fun _=>?_
 refine TameO.ite (fun _=>bind_tame (subA_tame h 0 v _ hv) fun x m hx=>not_tame) fun _=>?_
 refine TameO.ite (fun _=>bind_tame (subA_tame h 0 v _ hv) fun x m hx=>TameO.val trivial) fun _=>?_
 refine TameO.ite (fun _=>bind_tame (subA_tame h 0 v _ hv) fun x m hx=>neg_tame) fun _=>?_
 refine TameO.ite (fun _=>list_tame l v [] _ h hv) fun _=>?_
 refine TameO.ite (fun _=>call_tame h hv) fun _=>?_
 exact bind_tame (subA_tame h 0 v _ hv) fun x m hx=>bind_tame (subA_tame h 1 v m hv) fun y k _=>pair_tame hx
theorem ask_tame (e:Ex):TameA (askV e):=by
 induction e using Ex.ind with
 | h op a l n t ih =>
  rw[askV]
  refine step_tame fun f hf=>?_
  rw[askL_eq]at hf
  obtain ⟨x,hx,rfl⟩:=List.mem_map.1 hf
  exact ih x hx
def CountO (r:Out×Nat):Prop:=∀x,r.1=.val x→r.2≤1048576
def CountA (f:Ask):Prop:=∀v n,n≤1048576→CountO (f v n)
theorem CountO.gone (a:Int) (w n:Nat):CountO (.gone a w,n):=fun x h=>by cases h
theorem CountO.le {o:Out} {n:Nat} (h:n≤1048576):CountO (o,n):=fun _ _=>h
theorem bind_count {r:Out×Nat} {K:V→Nat→Out×Nat} (hr:CountO r) (hK:∀x m,m≤1048576→CountO (K x m)):CountO (bindA r K):=by
 unfold bindA
 cases h:r.1 with
 | val x=>exact hK x _ (hr x h)
 | gone a w=>exact CountO.gone _ _ _
theorem subA_count {l:List Ask} (h:∀f∈l,CountA f) (i:Nat):CountA (subA l i):=by
 unfold subA
 rw[List.getD_eq_getElem?_getD]
 cases hk:l[i]? with
 | none=>intro v n _;exact CountO.gone _ _ _
 | some f=>exact h f (List.mem_of_getElem? hk)
theorem logic_count {a:Int} {or:Bool}:∀(l:List Ask) (v:V) (n:Nat),(∀f∈l,CountA f)→n≤1048576→CountO (logicA a or l v n)
 | [],_,_,_,h=>CountO.le h
 | f :: r,v,n,h,hn=>by
  rw[logicA]
  refine bind_count (h f (by simp) v n hn) fun x m hm=>?_
  split
  ·split
   ·exact CountO.le hm
   ·exact logic_count r v m (fun g hg=>h g (by simp[hg])) hm
  ·exact CountO.gone _ _ _
theorem list_count {a:Int}:∀(l:List Ask) (v:V) (o:List V) (n:Nat),(∀f∈l,CountA f)→n≤1048576→CountO (listA a l v o n)
 | [],_,_,_,_,h=>CountO.le h
 | f :: r,v,o,n,h,hn=>by
  rw[listA]
  exact bind_count (h f (by simp) v n hn) fun x m hm=>list_count r v _ m (fun g hg=>h g (by simp[hg])) hm
theorem each_count {nm:ByteArray} {a:Int} {f:Ask} (hf:CountA f):∀(l o:List V) (n:Nat),n≤1048576→CountO (eachA nm a f l o n)
 | [],o,n,h=>CountO.le h
 | x :: r,o,n,h=>by
  rw[eachA]
  refine bind_count (hf x n h) fun y m hm=>?_
  split
  ·exact each_count hf r _ m hm
  ·split
   ·split
    ·exact CountO.le hm
    ·split
     ·exact CountO.le hm
     ·split
      ·exact each_count hf r _ m hm
      ·exact each_count hf r _ m hm
   ·exact CountO.gone _ _ _
theorem call_count {nm:ByteArray} {a:Int} {l:List Ask} {v:V} {n:Nat} (h:∀f∈l,CountA f) (hn:n≤1048576):CountO (callA nm a l v n):=by
 unfold callA
 refine bind_count (subA_count h 0 v n hn) fun x m hm=>?_
 split
 ·split
  ·exact each_count (subA_count h 1) _ _ _ hm
  ·exact CountO.gone _ _ _
 ·split
  ·exact CountO.le hm
  ·split
   ·exact CountO.le hm
   ·split
    ·exact CountO.le hm
    ·split
     ·exact bind_count (subA_count h 1 v m hm) fun y k hk=>CountO.le hk
     ·exact CountO.le hm
theorem CountO.ite {c:Prop} [Decidable c] {x y:Out×Nat} (h1:c→CountO x) (h2:¬c→CountO y):CountO (if c then x else y):=by
 by_cases h:c
 ·rw[if_pos h];exact h1 h
 ·rw[if_neg h];exact h2 h
theorem step_count {op:ByteArray} {a:Int} {nm:ByteArray} {t:Tm} {l:List Ask} (h:∀f∈l,CountA f):CountA (stepA op a nm t l):=by
 intro v n hn
 unfold stepA
 by_cases h0:1048576<n+1
 ·rw[if_pos h0];exact CountO.gone _ _ _
 have h1:n+1≤1048576:=by omega
 rw[if_neg h0]
 refine CountO.ite (fun _=>CountO.le h1) fun _=>?_
 refine CountO.ite (fun _=>CountO.le h1) fun _=>?_
 refine CountO.ite (fun _=>CountO.le h1) fun _=>?_
 refine CountO.ite (fun _=>bind_count (subA_count h 0 v _ h1) fun x m hm=>CountO.le hm) fun _=>?_
 refine CountO.ite (fun _=>logic_count l v _ h h1) fun _=>?_
 refine CountO.ite (fun _=>logic_count l v _ h h1) fun _=>?_
 refine CountO.ite (fun _=>bind_count (subA_count h 0 v _ h1) fun x m hm=>CountO.le hm) fun _=>?_
 refine CountO.ite (fun _=>bind_count (subA_count h 0 v _ h1) fun x m hm=>CountO.le hm) fun _=>?_
 refine CountO.ite (fun _=>bind_count (subA_count h 0 v _ h1) fun x m hm=>CountO.le hm) fun _=>?_
 refine CountO.ite (fun _=>list_count l v [] _ h h1) fun _=>?_
 refine CountO.ite (fun _=>call_count h h1) fun _=>?_
 exact bind_count (subA_count h 0 v _ h1) fun x m hm=>bind_count (subA_count h 1 v m hm) fun y k hk=>CountO.le hk
theorem ask_count (e:Ex):CountA (askV e):=by
 induction e using Ex.ind with
 | h op a l n t ih =>
  rw[askV]
  refine step_count fun f hf=>?_
  rw[askL_eq]at hf
  obtain ⟨x,hx,rfl⟩:=List.mem_map.1 hf
  exact ih x hx
attribute [local go_sem] ta_no_bool ta_yes_bool ta_nil_bool ta_no_int64 ta_yes_int64 ta_nil_int64 ta_no_flt ta_yes_flt ta_nil_flt ta_no_str ta_yes_str ta_nil_str ta_no_byt ta_yes_byt ta_nil_byt ta_no_ref ta_yes_ref ta_nil_ref ta_no_lst ta_yes_lst ta_nil_lst ta_no_dct ta_yes_dct ta_nil_dct ta_no_rec ta_yes_rec ta_nil_rec
def AskC (e:Ex):Prop:=∀(x:List Value) (v:V) (vv:Value) (n:Nat) (S:Nat→Prop) (w:World) (bw:Nat),Seen S w bw→bw<w.heap.size→n≤1048576→RdES w S e x→RdS w S v vv→tameV v→Words w S 1 kindWords→Hold w bw 0 (.int .i64 n) →
 Calls Tryz.prog 44 #[.pointer (some ⟨bw,0,none⟩),termOf x,vv] w (AskPost S bw (askV e v n) w)
theorem RdTS.elevenS {w:World} {S:Nat→Prop} {T:Tm} {y:List Value} (h:RdTS w S T y):Eleven y:=by
 obtain ⟨k,b,i,f,t,bs,r,l,d,c,v⟩:=T
 obtain ⟨Ab,cb,Al,cl,Ad,cd,rfl,_⟩:=h
 refine ⟨_,_,_,_,_,_,_,_,_,_,_,rfl,?_⟩
 intro u hu
 simp at hu
 rcases hu with h|h|h|h|h|h|h|h|h|h|h <;> subst h <;> rfl
def PartsS (w:World) (S:Nat→Prop) (A:Option Addr) (l:List Ex):Prop:=l=[]∨∃b off,A=some ⟨b,off,none⟩∧S b∧RdEL w S b off l
theorem PartsS.get {w:World} {S:Nat→Prop} {A:Option Addr} {l:List Ex} (h:PartsS w S A l) {k:Nat} {x:Ex} (hx:l[k]?=some x) :
  ∃b off xs,A=some ⟨b,off,none⟩∧S b∧Lie w b (off+k*15) xs∧RdES w S x xs:=by
 rcases h with h|⟨b,off,h1,h2,h3⟩
 ·subst h;cases hx
 ·obtain ⟨v,hv,hr⟩:=RdEL.iff.1 h3 k x hx
  exact ⟨b,off,v,h1,h2,hv,hr⟩
theorem askL_drop {l:List Ex} {k:Nat} {x:Ex} (hx:l[k]?=some x):(askL l).drop k=askV x :: (askL l).drop (k+1):=by
 rw[askL_eq]
 obtain ⟨hk,e⟩:=List.getElem?_eq_some_iff.1 hx
 rw[List.drop_eq_getElem_cons (by simpa using hk)]
 simp[e]
theorem askL_end {l:List Ex}:(askL l).drop l.length=[]:=by rw[askL_eq];simp
theorem AskPost.gone_ {S:Nat→Prop} {bw n why:Nat} {a:Int} {r:Out×Nat} {w w':World} (h:r=(.gone a why,n)) (hA:Aside bw w w') (hH:Hold w' bw 0 (.int .i64 n)):AskPost S bw r w (.panicked [{ v:=faultV a why,recovered:=false }]) w':=by
 subst h;exact ⟨hA,hH,rfl⟩
theorem AskPost.val_ {S:Nat→Prop} {bw n:Nat} {x:V} {v:Value} {r:Out×Nat} {w w':World} (h:r=(.val x,n)) (hA:Aside bw w w') (hH:Hold w' bw 0 (.int .i64 n)) (hv:RdS w' (fun b=>S b∨New w w' b) x v):AskPost S bw r w (.returned v) w':=by
 subst h;exact ⟨hA,hH,v,rfl,hv⟩
theorem logic_or (a:Int) (l:List Ex) (A:Option Addr) (c:Nat) (nm:ByteArray) (y:List Value) (hy:Eleven y) (ih:∀x∈l,AskC x) (v:V) (vv:Value) (n:Nat) (S:Nat→Prop) (w:World) (bw:Nat)
  (hS:Seen S w bw) (hbw:bw<w.heap.size) (hn:n≤1048576) (hll:l.length*216≤140737488351232) (hp:PartsS w S A l) (hv:RdS w S v vv) (ht:tameV v) (hw:Words w S 1 kindWords) (hh:Hold w bw 0 (.int .i64 n)) :
  Calls Tryz.prog 60 #[.pointer (some ⟨bw,0,none⟩),eV oOr a (.slice A l.length c) nm y,vv] w (AskPost S bw (logicA a true (askL l) v n) w):=by
 have HBad:=Hd (fun (W:World)=>bad_any oOr a (.slice A l.length c) nm y hy rfl W)
 obtain ⟨n0,n1,n2,n3,n4,n5,n6,n7,n8,n9,n10,rfl,h1⟩:=hy
 clear h1
 unfold eV at *
 have HB:Hid (Below w.heap.size w (w.alloc (.cells #[.string oOr,.int .i64 a,.slice A l.length c,.string nm,n0,n1,n2,n3,n4,n5,n6,n7,n8,n9,n10] 32))):=Hd bnew
 have HA0:Hid (Aside bw w (w.alloc (.cells #[.string oOr,.int .i64 a,.slice A l.length c,.string nm,n0,n1,n2,n3,n4,n5,n6,n7,n8,n9,n10] 32))):=Hd (Aside.of_below HB.out)
 have hh0:=hh.below HB.out hbw
 have HAsk:=Hd (fun (x:Ex) (hx:x∈l) (xs:List Value) (m:Nat) (W:World) (hm:m≤1048576) (hW:Aside bw (w.alloc (.cells #[.string oOr,.int .i64 a,.slice A l.length c,.string nm,n0,n1,n2,n3,n4,n5,n6,n7,n8,n9,n10] 32)) W) (hhW:Hold W bw 0 (.int .i64 m)) (hxs:RdES w S x xs)=>ih x hx xs v vv m S W bw (hS.to (Nat.le_trans HB.out.size hW.size)) (Nat.lt_of_lt_of_le hbw (Nat.le_trans HB.out.size hW.size)) hm (hxs.aside hS (HA0.out.trans hW)) (hv.aside hS (HA0.out.trans hW)) ht (hw.aside hS (HA0.out.trans hW)) hhW)
 clear ih hv hw hh
 go_enter Tryz.func60,Tryz.ntmps60
 go_wp2
 go_loopw [14] (fun i wr=>∃(k m:Nat),i=.int .i64 k∧k≤l.length∧m≤1048576∧Hid (logicA a true (askL l) v n=logicA a true ((askL l).drop k) v m)∧Aside bw (w.alloc (.cells #[.string oOr,.int .i64 a,.slice A l.length c,.string nm,n0,n1,n2,n3,n4,n5,n6,n7,n8,n9,n10] 32)) wr∧Hold wr bw 0 (.int .i64 m)) (fun i _=>l.length-(intOf i).toNat)
 case atStart=>exact ⟨0,n,rfl,by omega,hn,Hd rfl,Aside.refl _ _,hh0⟩
 case round =>
  clear hh0
  obtain ⟨k,m,rfl,hk,hm,HT,hA,hH⟩:=hrel
  have hA1:=HA0.out.trans hA
  have hz:=hA1.size
  have hz1:w.heap.size+1≤wr.heap.size:=by have:=hA.size;simp at this;omega
  have hne:w.heap.size≠bw:=by omega
  have qe:∀o,wr.cell? ⟨w.heap.size,o,none⟩=(w.alloc (.cells #[.string oOr,.int .i64 a,.slice A l.length c,.string nm,n0,n1,n2,n3,n4,n5,n6,n7,n8,n9,n10] 32)).cell? ⟨w.heap.size,o,none⟩:=fun o=>hA.cell (p:=⟨w.heap.size,o,none⟩) (by simp) hne
  by_cases hlt:k<l.length
  ·obtain ⟨x,hx⟩:∃x,l[k]?=some x:=⟨_,List.getElem?_eq_getElem hlt⟩
   obtain ⟨b,off,xs,rfl,hSb,c0,hxs⟩:=hp.get hx
   have c1:=c0.keep (fun p hp=>hA1.cell (by rw[hp];exact (hS b hSb).1) (by rw[hp];exact (hS b hSb).2))
   have hb3:Below wr.heap.size wr (wr.alloc (.cells xs.toArray 32)):=bnew
   have HC:=Hd (HAsk.out x (List.mem_of_getElem? hx) xs m _ hm (hA.trans (Aside.of_below hb3)) (hH.below hb3 (by omega)) hxs)
   have HB3:=Hd hb3
   have HDR:=Hd (askL_drop hx)
   have HCnt:=Hd (ask_count x v m hm)
   obtain ⟨op',a',l',nm',t'⟩:=x
   obtain ⟨A',c',y',rfl,-,-,-,hty,-⟩:=hxs
   obtain ⟨m0,m1,m2,m3,m4,m5,m6,m7,m8,m9,m10,rfl,h1c⟩:=hty.elevenS
   obtain ⟨q0,q1,q2,q3,q4,q5,q6,q7,q8,q9,q10,q11,q12,q13,q14⟩:=lie15 c1
   have o0:=fun W a m=>run_store Tryz.prog W a m0 m (h1c m0 (by simp))
   have o1:=fun W a m=>run_store Tryz.prog W a m1 m (h1c m1 (by simp))
   have o2:=fun W a m=>run_store Tryz.prog W a m2 m (h1c m2 (by simp))
   have o3:=fun W a m=>run_store Tryz.prog W a m3 m (h1c m3 (by simp))
   have o4:=fun W a m=>run_store Tryz.prog W a m4 m (h1c m4 (by simp))
   have o5:=fun W a m=>run_store Tryz.prog W a m5 m (h1c m5 (by simp))
   have o6:=fun W a m=>run_store Tryz.prog W a m6 m (h1c m6 (by simp))
   have o7:=fun W a m=>run_store Tryz.prog W a m7 m (h1c m7 (by simp))
   have o8:=fun W a m=>run_store Tryz.prog W a m8 m (h1c m8 (by simp))
   have o9:=fun W a m=>run_store Tryz.prog W a m9 m (h1c m9 (by simp))
   have o10:=fun W a m=>run_store Tryz.prog W a m10 m (h1c m10 (by simp))
   clear hp hx c0 c1 hS hty h1c HAsk hb3
   unfold termOf at HC
   generalize hq:askV (.mk op' a' l' nm' t') v m=q at *
   obtain ⟨o,m2'⟩:=q
   cases o with
   | gone ga gw =>
    have HF:Hid (logicA a true (askL l) v n=(.gone ga gw,m2')):=Hd (by rw[HT.out,HDR.out,logicA,hq];rfl)
    clear hq
    go_wp2_with fail
    refine HC.out.mono ?_
    rintro e w1 ⟨hA2,hH2,rfl⟩
    exact ⟨rfl,AskPost.gone_ HF.out (hA1.trans ((Aside.of_below HB3.out).trans hA2)) hH2⟩
   | val u =>
    have hm2:m2'≤1048576:=HCnt.out u rfl
    have HU:Hid (logicA a true (askL l) v n=(fun (x:V) (m:Nat)=>match x with | .bool b=>if b=true then (.val (.bool b),m) else logicA a true ((askL l).drop (k+1)) v m|_=>(Out.gone a 172,m)) u m2'):=Hd (by rw[HT.out,HDR.out,logicA,hq];rfl)
    clear hq
    by_cases h2:kindV u=2
    ·obtain ⟨ub,rfl⟩:=kind_is_bool h2
     cases ub
     ·have HT2:Hid (logicA a true (askL l) v n=logicA a true ((askL l).drop (k+1)) v m2'):=Hd (by rw[HU.out];rfl)
      go_wp2_with fail
      refine HC.out.mono ?_
      rintro e w1 ⟨hA2,hH2,uv,rfl,rfl⟩
      have hA3:=hA.trans ((Aside.of_below HB3.out).trans hA2)
      have qe3:=fun (o:Nat)=>hA3.cell (p:=⟨w.heap.size,o,none⟩) (by simp) hne
      go_wp2
      refine ⟨⟨k+1,m2',rfl,hlt,hm2,HT2,hA3,hH2⟩,?_⟩
      simp[intOf];omega
     ·have HF:Hid (logicA a true (askL l) v n=(.val (.bool true),m2')):=Hd (by rw[HU.out];rfl)
      go_wp2_with fail
      refine HC.out.mono ?_
      rintro e w1 ⟨hA2,hH2,uv,rfl,rfl⟩
      have hA3:=hA.trans ((Aside.of_below HB3.out).trans hA2)
      have qe3:=fun (o:Nat)=>hA3.cell (p:=⟨w.heap.size,o,none⟩) (by simp) hne
      go_wp2
      go_ret
      exact AskPost.val_ HF.out (HA0.out.trans hA3) hH2 rfl
    ·have HF:Hid (logicA a true (askL l) v n=(.gone a 172,m2')):=Hd (by rw[HU.out];cases u <;> first|rfl|exact absurd rfl h2)
     go_wp2_with fail
     refine HC.out.mono ?_
     rintro e w1 ⟨hA2,hH2,uv,rfl,huv⟩
     have hA3:=hA.trans ((Aside.of_below HB3.out).trans hA2)
     have k0:=fun (W:World)=>not_bool huv 20 W h2
     have qe3:=fun (o:Nat)=>hA3.cell (p:=⟨w.heap.size,o,none⟩) (by simp) hne
     go_wp2_with fail
     refine (HBad.out _).mono ?_
     rintro e w9 ⟨rfl,hb9⟩
     exact ⟨rfl,AskPost.gone_ HF.out (HA0.out.trans (hA3.trans (Aside.of_below hb9))) (hH2.below hb9 (by have:=hA3.size;simp at this;omega))⟩
  ·obtain rfl:k=l.length:=by omega
   have HF:Hid (logicA a true (askL l) v n=(.val (.bool false),m)):=Hd (by rw[HT.out,askL_end,logicA];rfl)
   clear HAsk hp
   go_wp2
   go_ret
   exact AskPost.val_ HF.out hA1 hH rfl
theorem logic_and (a:Int) (l:List Ex) (A:Option Addr) (c:Nat) (nm:ByteArray) (y:List Value) (hy:Eleven y) (ih:∀x∈l,AskC x) (v:V) (vv:Value) (n:Nat) (S:Nat→Prop) (w:World) (bw:Nat)
  (hS:Seen S w bw) (hbw:bw<w.heap.size) (hn:n≤1048576) (hll:l.length*216≤140737488351232) (hp:PartsS w S A l) (hv:RdS w S v vv) (ht:tameV v) (hw:Words w S 1 kindWords) (hh:Hold w bw 0 (.int .i64 n)) :
  Calls Tryz.prog 60 #[.pointer (some ⟨bw,0,none⟩),eV oAnd a (.slice A l.length c) nm y,vv] w (AskPost S bw (logicA a false (askL l) v n) w):=by
 have HBad:=Hd (fun (W:World)=>bad_any oAnd a (.slice A l.length c) nm y hy rfl W)
 obtain ⟨n0,n1,n2,n3,n4,n5,n6,n7,n8,n9,n10,rfl,h1⟩:=hy
 clear h1
 unfold eV at *
 have HB:Hid (Below w.heap.size w (w.alloc (.cells #[.string oAnd,.int .i64 a,.slice A l.length c,.string nm,n0,n1,n2,n3,n4,n5,n6,n7,n8,n9,n10] 32))):=Hd bnew
 have HA0:Hid (Aside bw w (w.alloc (.cells #[.string oAnd,.int .i64 a,.slice A l.length c,.string nm,n0,n1,n2,n3,n4,n5,n6,n7,n8,n9,n10] 32))):=Hd (Aside.of_below HB.out)
 have hh0:=hh.below HB.out hbw
 have HAsk:=Hd (fun (x:Ex) (hx:x∈l) (xs:List Value) (m:Nat) (W:World) (hm:m≤1048576) (hW:Aside bw (w.alloc (.cells #[.string oAnd,.int .i64 a,.slice A l.length c,.string nm,n0,n1,n2,n3,n4,n5,n6,n7,n8,n9,n10] 32)) W) (hhW:Hold W bw 0 (.int .i64 m)) (hxs:RdES w S x xs)=>ih x hx xs v vv m S W bw (hS.to (Nat.le_trans HB.out.size hW.size)) (Nat.lt_of_lt_of_le hbw (Nat.le_trans HB.out.size hW.size)) hm (hxs.aside hS (HA0.out.trans hW)) (hv.aside hS (HA0.out.trans hW)) ht (hw.aside hS (HA0.out.trans hW)) hhW)
 clear ih hv hw hh
 go_enter Tryz.func60,Tryz.ntmps60
 go_wp2
 go_loopw [14] (fun i wr=>∃(k m:Nat),i=.int .i64 k∧k≤l.length∧m≤1048576∧Hid (logicA a false (askL l) v n=logicA a false ((askL l).drop k) v m)∧Aside bw (w.alloc (.cells #[.string oAnd,.int .i64 a,.slice A l.length c,.string nm,n0,n1,n2,n3,n4,n5,n6,n7,n8,n9,n10] 32)) wr∧Hold wr bw 0 (.int .i64 m)) (fun i _=>l.length-(intOf i).toNat)
 case atStart=>exact ⟨0,n,rfl,by omega,hn,Hd rfl,Aside.refl _ _,hh0⟩
 case round =>
  clear hh0
  obtain ⟨k,m,rfl,hk,hm,HT,hA,hH⟩:=hrel
  have hA1:=HA0.out.trans hA
  have hz:=hA1.size
  have hz1:w.heap.size+1≤wr.heap.size:=by have:=hA.size;simp at this;omega
  have hne:w.heap.size≠bw:=by omega
  have qe:∀o,wr.cell? ⟨w.heap.size,o,none⟩=(w.alloc (.cells #[.string oAnd,.int .i64 a,.slice A l.length c,.string nm,n0,n1,n2,n3,n4,n5,n6,n7,n8,n9,n10] 32)).cell? ⟨w.heap.size,o,none⟩:=fun o=>hA.cell (p:=⟨w.heap.size,o,none⟩) (by simp) hne
  by_cases hlt:k<l.length
  ·obtain ⟨x,hx⟩:∃x,l[k]?=some x:=⟨_,List.getElem?_eq_getElem hlt⟩
   obtain ⟨b,off,xs,rfl,hSb,c0,hxs⟩:=hp.get hx
   have c1:=c0.keep (fun p hp=>hA1.cell (by rw[hp];exact (hS b hSb).1) (by rw[hp];exact (hS b hSb).2))
   have hb3:Below wr.heap.size wr (wr.alloc (.cells xs.toArray 32)):=bnew
   have HC:=Hd (HAsk.out x (List.mem_of_getElem? hx) xs m _ hm (hA.trans (Aside.of_below hb3)) (hH.below hb3 (by omega)) hxs)
   have HB3:=Hd hb3
   have HDR:=Hd (askL_drop hx)
   have HCnt:=Hd (ask_count x v m hm)
   obtain ⟨op',a',l',nm',t'⟩:=x
   obtain ⟨A',c',y',rfl,-,-,-,hty,-⟩:=hxs
   obtain ⟨m0,m1,m2,m3,m4,m5,m6,m7,m8,m9,m10,rfl,h1c⟩:=hty.elevenS
   obtain ⟨q0,q1,q2,q3,q4,q5,q6,q7,q8,q9,q10,q11,q12,q13,q14⟩:=lie15 c1
   have o0:=fun W a m=>run_store Tryz.prog W a m0 m (h1c m0 (by simp))
   have o1:=fun W a m=>run_store Tryz.prog W a m1 m (h1c m1 (by simp))
   have o2:=fun W a m=>run_store Tryz.prog W a m2 m (h1c m2 (by simp))
   have o3:=fun W a m=>run_store Tryz.prog W a m3 m (h1c m3 (by simp))
   have o4:=fun W a m=>run_store Tryz.prog W a m4 m (h1c m4 (by simp))
   have o5:=fun W a m=>run_store Tryz.prog W a m5 m (h1c m5 (by simp))
   have o6:=fun W a m=>run_store Tryz.prog W a m6 m (h1c m6 (by simp))
   have o7:=fun W a m=>run_store Tryz.prog W a m7 m (h1c m7 (by simp))
   have o8:=fun W a m=>run_store Tryz.prog W a m8 m (h1c m8 (by simp))
   have o9:=fun W a m=>run_store Tryz.prog W a m9 m (h1c m9 (by simp))
   have o10:=fun W a m=>run_store Tryz.prog W a m10 m (h1c m10 (by simp))
   clear hp hx c0 c1 hS hty h1c HAsk hb3
   unfold termOf at HC
   generalize hq:askV (.mk op' a' l' nm' t') v m=q at *
   obtain ⟨o,m2'⟩:=q
   cases o with
   | gone ga gw =>
    have HF:Hid (logicA a false (askL l) v n=(.gone ga gw,m2')):=Hd (by rw[HT.out,HDR.out,logicA,hq];rfl)
    clear hq
    go_wp2_with fail
    refine HC.out.mono ?_
    rintro e w1 ⟨hA2,hH2,rfl⟩
    exact ⟨rfl,AskPost.gone_ HF.out (hA1.trans ((Aside.of_below HB3.out).trans hA2)) hH2⟩
   | val u =>
    have hm2:m2'≤1048576:=HCnt.out u rfl
    have HU:Hid (logicA a false (askL l) v n=(fun (x:V) (m:Nat)=>match x with | .bool b=>if b=false then (.val (.bool b),m) else logicA a false ((askL l).drop (k+1)) v m|_=>(Out.gone a 172,m)) u m2'):=Hd (by rw[HT.out,HDR.out,logicA,hq];rfl)
    clear hq
    by_cases h2:kindV u=2
    ·obtain ⟨ub,rfl⟩:=kind_is_bool h2
     cases ub
     ·have HF:Hid (logicA a false (askL l) v n=(.val (.bool false),m2')):=Hd (by rw[HU.out];rfl)
      go_wp2_with fail
      refine HC.out.mono ?_
      rintro e w1 ⟨hA2,hH2,uv,rfl,rfl⟩
      have hA3:=hA.trans ((Aside.of_below HB3.out).trans hA2)
      have qe3:=fun (o:Nat)=>hA3.cell (p:=⟨w.heap.size,o,none⟩) (by simp) hne
      go_wp2
      go_ret
      exact AskPost.val_ HF.out (HA0.out.trans hA3) hH2 rfl
     ·have HT2:Hid (logicA a false (askL l) v n=logicA a false ((askL l).drop (k+1)) v m2'):=Hd (by rw[HU.out];rfl)
      go_wp2_with fail
      refine HC.out.mono ?_
      rintro e w1 ⟨hA2,hH2,uv,rfl,rfl⟩
      have hA3:=hA.trans ((Aside.of_below HB3.out).trans hA2)
      have qe3:=fun (o:Nat)=>hA3.cell (p:=⟨w.heap.size,o,none⟩) (by simp) hne
      go_wp2
      refine ⟨⟨k+1,m2',rfl,hlt,hm2,HT2,hA3,hH2⟩,?_⟩
      simp[intOf];omega
    ·have HF:Hid (logicA a false (askL l) v n=(.gone a 172,m2')):=Hd (by rw[HU.out];cases u <;> first|rfl|exact absurd rfl h2)
     go_wp2_with fail
     refine HC.out.mono ?_
     rintro e w1 ⟨hA2,hH2,uv,rfl,huv⟩
     have hA3:=hA.trans ((Aside.of_below HB3.out).trans hA2)
     have k0:=fun (W:World)=>not_bool huv 20 W h2
     have qe3:=fun (o:Nat)=>hA3.cell (p:=⟨w.heap.size,o,none⟩) (by simp) hne
     go_wp2_with fail
     refine (HBad.out _).mono ?_
     rintro e w9 ⟨rfl,hb9⟩
     exact ⟨rfl,AskPost.gone_ HF.out (HA0.out.trans (hA3.trans (Aside.of_below hb9))) (hH2.below hb9 (by have:=hA3.size;simp at this;omega))⟩
  ·obtain rfl:k=l.length:=by omega
   have HF:Hid (logicA a false (askL l) v n=(.val (.bool true),m)):=Hd (by rw[HT.out,askL_end,logicA];rfl)
   clear HAsk hp
   go_wp2
   go_ret
   exact AskPost.val_ HF.out hA1 hH rfl
end Go.Proofs.YtbemeapjeipjlaaGreatDoor
