/- Walks: value.order of any two, value.Same. -/
import Derived.Test.YtbemeapjeipjlaaGreatDoorQN08
import Derived.Laws.FloatArith
set_option linter.unusedVariables false
set_option linter.unusedSimpArgs false
namespace Go.Proofs.YtbemeapjeipjlaaGreatDoor
open Go Go.RowKit
set_option maxRecDepth 100000
set_option maxHeartbeats 8000000
attribute [local go_sem] ta_no_bool ta_yes_bool ta_nil_bool ta_no_int64 ta_yes_int64 ta_nil_int64 ta_no_flt ta_yes_flt ta_nil_flt ta_no_str ta_yes_str ta_nil_str ta_no_byt ta_yes_byt ta_nil_byt ta_no_ref ta_yes_ref ta_nil_ref ta_no_lst ta_yes_lst ta_nil_lst ta_no_dct ta_yes_dct ta_nil_dct ta_no_rec ta_yes_rec ta_nil_rec ta1_bool ta1_int64 ta1_flt ta1_str ta1_byt ta1_ref ta1_lst ta1_dct ta1_rec
theorem order_record (cls cls':ByteArray) (v v':Int) (a b:List (ByteArray×V)) (ih:∀p∈a,OrderC p.2) (hfa:fineD a) (hfb:fineD b) (va vb:Value) (w:World) (ha:Rd w w.heap.size (.record cls v a) va) (hb:Rd w w.heap.size (.record cls' v' b) vb):Calls Tryz.prog 152 #[va,vb] w (OrdPost (ordV (.record cls v a) (.record cls' v' b)) w):=by
 have K1:=Hd (kind_any _ _ w.heap.size w ha)
 have K2:=Hd (kind_any _ _ w.heap.size w hb)
 have KC:Hid (Calls Tryz.prog 168 #[.int .i64 (kindV (.record cls v a)),.int .i64 (kindV (.record cls' v' b))] w (NumPost 0 w)):=Hd (cmp_int _ _ w)
 have HU:Hid (ordV (.record cls v a) (.record cls' v' b)=thenI (ordS cls cls') (thenI (ordI v v') (ordD a b))):=Hd (by rw[ordV])
 obtain ⟨b1,rfl,hB1,-,q0,q1,-,-,A1,c1,q2,l1,r1⟩:=ha
 obtain ⟨b2,rfl,hB2,-,p0,p1,-,-,A2,c2,p2,l2,r2⟩:=hb
 have HS:=Hd (fun (W:World)=>cmp_string cls cls' W)
 have HI:=Hd (fun (W:World)=>cmp_int v v' W)
 have HD:=Hd (fun (W:World) (hW:Below w.heap.size w W)=>compare_dict a b ih A1 A2 c1 c2 W hfa hfb l1 l2 (DictAt.more (DictAt.below r1 hW) hW.size) (DictAt.more (DictAt.below r2 hW) hW.size))
 clear ih hfa hfb r1 r2
 generalize ordV (.record cls v a) (.record cls' v' b)=r at *
 generalize ordD a b=nd at *
 generalize ordS cls cls'=ns at *
 generalize ordI v v'=ni at *
 by_cases z1:ns=0
 ·replace HU:=Hd (HU.out.trans (thenI_zero z1))
  have e1:(ns != 0)=false:=by simp[z1]
  by_cases z2:ni=0
  ·replace HU:=Hd (HU.out.trans (thenI_zero z2))
   have e2:(ni != 0)=false:=by simp[z2]
   clear z1 z2
   go_enter Tryz.func152,Tryz.ntmps152
   go_wp2_with fail
   refine K1.out.mono ?_
   rintro e w1 ⟨rfl,rfl⟩
   go_wp2_with fail
   refine K2.out.mono ?_
   rintro e w1 ⟨rfl,rfl⟩
   go_wp2_with fail
   refine KC.out.mono ?_
   rintro e w1 ⟨rfl,rfl⟩
   go_wp2
   refine wp_region_below_lit (by kernel_rfl) (by kernel_rfl) ?_
   repeat (refine WpC.step (fun K hK=>?_);go_simp;first|(refine hK _ ?_;clear hK K)|(apply Exists.intro;refine ⟨fun W hW=>?_,hK _ ?_⟩;(first|(intros;rfl)|(refine ⟨rfl,?_⟩;rfl)|((obtain ⟨hc,hf⟩:=bcellB hW;go_simp;rfl))|((first|(go_at_call 173;refine (HS.out _).mono ?_;rintro e w1 ⟨rfl,rfl⟩;exact ⟨rfl,hW⟩))));clear hK K))
   refine WpC.nil ?_
   intro wq hwq
   have HW1:=Hd hwq
   have hz1:=hwq.size
   have q1':=(hwq.cell (p:=⟨b1,1,none⟩) hB1).trans q1
   have p1':=(hwq.cell (p:=⟨b2,1,none⟩) hB2).trans p1
   clear q1 p1
   have hB1':b1<wq.heap.size:=by omega
   have hB2':b2<wq.heap.size:=by omega
   go_wp2
   refine wp_region_below_lit (by kernel_rfl) (by kernel_rfl) ?_
   repeat (refine WpC.step (fun K hK=>?_);go_simp;first|(refine hK _ ?_;clear hK K)|(apply Exists.intro;refine ⟨fun W hW=>?_,hK _ ?_⟩;(first|(intros;rfl)|(refine ⟨rfl,?_⟩;rfl)|((obtain ⟨hc,hf⟩:=bcellB hW;go_simp;rfl))|((first|(go_at_call 168;refine (HI.out _).mono ?_;rintro e w1 ⟨rfl,rfl⟩;exact ⟨rfl,hW⟩))));clear hK K))
   refine WpC.nil ?_
   intro wq hwq
   replace HW1:=Hd (HW1.out.trans (hwq.mono hz1))
   replace hz1:=Nat.le_trans hz1 hwq.size
   have q2':=(HW1.out.cell (p:=⟨b1,2,none⟩) hB1).trans q2
   have p2':=(HW1.out.cell (p:=⟨b2,2,none⟩) hB2).trans p2
   clear q2 p2
   have hB1'':b1<wq.heap.size:=by omega
   have hB2'':b2<wq.heap.size:=by omega
   go_wp2
   refine wp_region_below_lit (by kernel_rfl) (by kernel_rfl) ?_
   repeat (refine WpC.step (fun K hK=>?_);go_simp;first|(refine hK _ ?_;clear hK K)|(apply Exists.intro;refine ⟨fun W hW=>?_,hK _ ?_⟩;(first|(intros;rfl)|(refine ⟨rfl,?_⟩;rfl)|((obtain ⟨hc,hf⟩:=bcellB hW;go_simp;rfl))|((first|(go_at_call 176;refine (HD.out _ (HW1.out.trans (hW.mono hz1))).mono ?_;rintro e w1 ⟨rfl,hb1⟩;exact ⟨rfl,below_then hW (Nat.le_refl _) hb1⟩))));clear hK K))
   refine WpC.nil ?_
   intro wq hwq
   replace HW1:=Hd (HW1.out.trans (hwq.mono hz1))
   go_wp2
   go_ret
   exact ⟨ret_num HU.out.symm,HW1.out⟩
  ·replace HU:=Hd (HU.out.trans (thenI_some z2))
   have e2:(ni != 0)=true:=by simp[z2]
   clear z1 z2
   go_enter Tryz.func152,Tryz.ntmps152
   go_wp2_with fail
   refine K1.out.mono ?_
   rintro e w1 ⟨rfl,rfl⟩
   go_wp2_with fail
   refine K2.out.mono ?_
   rintro e w1 ⟨rfl,rfl⟩
   go_wp2_with fail
   refine KC.out.mono ?_
   rintro e w1 ⟨rfl,rfl⟩
   go_wp2
   refine wp_region_below_lit (by kernel_rfl) (by kernel_rfl) ?_
   repeat (refine WpC.step (fun K hK=>?_);go_simp;first|(refine hK _ ?_;clear hK K)|(apply Exists.intro;refine ⟨fun W hW=>?_,hK _ ?_⟩;(first|(intros;rfl)|(refine ⟨rfl,?_⟩;rfl)|((obtain ⟨hc,hf⟩:=bcellB hW;go_simp;rfl))|((first|(go_at_call 173;refine (HS.out _).mono ?_;rintro e w1 ⟨rfl,rfl⟩;exact ⟨rfl,hW⟩))));clear hK K))
   refine WpC.nil ?_
   intro wq hwq
   have HW1:=Hd hwq
   have hz1:=hwq.size
   have q1':=(hwq.cell (p:=⟨b1,1,none⟩) hB1).trans q1
   have p1':=(hwq.cell (p:=⟨b2,1,none⟩) hB2).trans p1
   clear q1 p1
   have hB1':b1<wq.heap.size:=by omega
   have hB2':b2<wq.heap.size:=by omega
   go_wp2
   refine wp_region_below_lit (by kernel_rfl) (by kernel_rfl) ?_
   repeat (refine WpC.step (fun K hK=>?_);go_simp;first|(refine hK _ ?_;clear hK K)|(apply Exists.intro;refine ⟨fun W hW=>?_,hK _ ?_⟩;(first|(intros;rfl)|(refine ⟨rfl,?_⟩;rfl)|((obtain ⟨hc,hf⟩:=bcellB hW;go_simp;rfl))|((first|(go_at_call 168;refine (HI.out _).mono ?_;rintro e w1 ⟨rfl,rfl⟩;exact ⟨rfl,hW⟩))));clear hK K))
   refine WpC.nil ?_
   intro wq hwq
   replace HW1:=Hd (HW1.out.trans (hwq.mono hz1))
   replace hz1:=Nat.le_trans hz1 hwq.size
   go_wp2
   go_ret
   exact ⟨ret_num HU.out.symm,HW1.out⟩
 ·replace HU:=Hd (HU.out.trans (thenI_some z1))
  have e1:(ns != 0)=true:=by simp[z1]
  clear z1
  go_enter Tryz.func152,Tryz.ntmps152
  go_wp2_with fail
  refine K1.out.mono ?_
  rintro e w1 ⟨rfl,rfl⟩
  go_wp2_with fail
  refine K2.out.mono ?_
  rintro e w1 ⟨rfl,rfl⟩
  go_wp2_with fail
  refine KC.out.mono ?_
  rintro e w1 ⟨rfl,rfl⟩
  go_wp2
  refine wp_region_below_lit (by kernel_rfl) (by kernel_rfl) ?_
  repeat (refine WpC.step (fun K hK=>?_);go_simp;first|(refine hK _ ?_;clear hK K)|(apply Exists.intro;refine ⟨fun W hW=>?_,hK _ ?_⟩;(first|(intros;rfl)|(refine ⟨rfl,?_⟩;rfl)|((obtain ⟨hc,hf⟩:=bcellB hW;go_simp;rfl))|((first|(go_at_call 173;refine (HS.out _).mono ?_;rintro e w1 ⟨rfl,rfl⟩;exact ⟨rfl,hW⟩))));clear hK K))
  refine WpC.nil ?_
  intro wq hwq
  have HW1:=Hd hwq
  have hz1:=hwq.size
  go_wp2
  go_ret
  exact ⟨ret_num HU.out.symm,HW1.out⟩
theorem order_any (a:V):OrderC a:=by
 induction a using V.ind with
 | h0 =>
  intro b va vb w hfa hfb ha hb
  by_cases hk:kindV .nil=kindV b
  ·cases b <;> first|(exact order_nil va vb w ha hb)|(exact absurd hk (by simp[kindV]))
  ·exact order_kinds _ _ va vb w hk ha hb
 | h1 a =>
  intro b va vb w hfa hfb ha hb
  by_cases hk:kindV (.bool a)=kindV b
  ·cases b <;> first|(exact order_bool a _ va vb w ha hb)|(exact absurd hk (by simp[kindV]))
  ·exact order_kinds _ _ va vb w hk ha hb
 | h2 a =>
  intro b va vb w hfa hfb ha hb
  by_cases hk:kindV (.int a)=kindV b
  ·cases b <;> first|(exact order_int a _ va vb w ha hb)|(exact absurd hk (by simp[kindV]))
  ·exact order_kinds _ _ va vb w hk ha hb
 | h3 a =>
  intro b va vb w hfa hfb ha hb
  by_cases hk:kindV (.flt a)=kindV b
  ·cases b <;> first|(exact order_flt a _ va vb w ha hb)|(exact absurd hk (by simp[kindV]))
  ·exact order_kinds _ _ va vb w hk ha hb
 | h4 a =>
  intro b va vb w hfa hfb ha hb
  by_cases hk:kindV (.text a)=kindV b
  ·cases b <;> first|(exact order_text a _ va vb w ha hb)|(exact absurd hk (by simp[kindV]))
  ·exact order_kinds _ _ va vb w hk ha hb
 | h5 a =>
  intro b va vb w hfa hfb ha hb
  by_cases hk:kindV (.bytes a)=kindV b
  ·cases b <;> first|(exact order_bytes a _ va vb w ha hb)|(exact absurd hk (by simp[kindV]))
  ·exact order_kinds _ _ va vb w hk ha hb
 | h6 a =>
  intro b va vb w hfa hfb ha hb
  by_cases hk:kindV (.ref a)=kindV b
  ·cases b <;> first|(exact order_ref a _ va vb w ha hb)|(exact absurd hk (by simp[kindV]))
  ·exact order_kinds _ _ va vb w hk ha hb
 | h7 a ih =>
  intro b va vb w hfa hfb ha hb
  by_cases hk:kindV (.list a)=kindV b
  ·cases b <;> first|(exact order_list a _ ih hfa hfb va vb w ha hb)|(exact absurd hk (by simp[kindV]))
  ·exact order_kinds _ _ va vb w hk ha hb
 | h8 a ih =>
  intro b va vb w hfa hfb ha hb
  by_cases hk:kindV (.dict a)=kindV b
  ·cases b <;> first|(exact order_dict a _ ih hfa hfb va vb w ha hb)|(exact absurd hk (by simp[kindV]))
  ·exact order_kinds _ _ va vb w hk ha hb
 | h9 c v a ih =>
  intro b va vb w hfa hfb ha hb
  by_cases hk:kindV (.record c v a)=kindV b
  ·cases b <;> first|(exact order_record c _ v _ a _ ih hfa hfb va vb w ha hb)|(exact absurd hk (by simp[kindV]))
  ·exact order_kinds _ _ va vb w hk ha hb
 | h10=>intro b va vb w hfa;exact absurd hfa (by simp[fineV])
 | h11=>intro b va vb w hfa;exact absurd hfa (by simp[fineV])
theorem step_fine {x:V} {d:Nat} {s:Cnt} {K:Cnt→Bool×Cnt} (h:(stepV x d s K).1=true):ownV x s.n d=0∧(K ⟨s.n+1,max s.deep d,0⟩).1=true:=by
 by_cases hq:ownV x s.n d=0
 ·rw[stepV_yes hq]at h;exact ⟨hq,h⟩
 ·rw[stepV_no hq]at h;cases h
theorem then_fine {r:Bool×Cnt} {K:Cnt→Bool×Cnt} (h:(thenV r K).1=true):r.1=true∧(K r.2).1=true:=by
 cases hq:r.1
 ·rw[thenV_no hq]at h;cases h
 ·rw[thenV_yes hq]at h;exact ⟨rfl,h⟩
theorem own_kind {x:V} {n d:Nat} (h:ownV x n d=0):x≠.nothing∧x≠.alien:=by
 constructor <;> (rintro rfl;unfold ownV at h;split at h <;> cases h)
theorem partL_fine (l:List V) (ih:∀x∈l,∀d s,(partV x d s).1=true→fineV x):∀d s,(partL l d s).1=true→fineL l:=by
 induction l with
 | nil=>intro d s _;exact trivial
 | cons x r ihr =>
  intro d s h
  obtain ⟨h1,h2⟩:=then_fine h
  exact ⟨ih x (by simp) _ _ h1,ihr (fun y hy=>ih y (by simp[hy])) _ _ h2⟩
theorem partD_fine (l:List (ByteArray×V)) (ih:∀p∈l,∀d s,(partV p.2 d s).1=true→fineV p.2):∀d s,(partD l d s).1=true→fineD l:=by
 induction l with
 | nil=>intro d s _;exact trivial
 | cons p r ihr =>
  obtain ⟨n,x⟩:=p
  intro d s h
  obtain ⟨h1,h2⟩:=then_fine h
  exact ⟨ih (n,x) (by simp) _ _ h1,ihr (fun y hy=>ih y (by simp[hy])) _ _ h2⟩
theorem part_fine (x:V):∀d s,(partV x d s).1=true→fineV x:=by
 induction x using V.ind with
 | h0=>intro d s _;trivial
 | h1=>intro d s _;trivial
 | h2=>intro d s _;trivial
 | h3=>intro d s _;trivial
 | h4=>intro d s _;trivial
 | h5=>intro d s _;trivial
 | h6=>intro d s _;trivial
 | h7 l ih=>intro d s h;exact partL_fine l ih _ _ (step_fine h).2
 | h8 l ih=>intro d s h;exact partD_fine l ih _ _ (step_fine h).2
 | h9 c v l ih=>intro d s h;exact partD_fine l ih _ _ (step_fine h).2
 | h10=>intro d s h;exact absurd rfl (own_kind (step_fine h).1).1
 | h11=>intro d s h;exact absurd rfl (own_kind (step_fine h).1).2
theorem step_why {x:V} {d:Nat} {s:Cnt} {K:Cnt→Bool×Cnt} (hK:∀t,(K t).1=false→(K t).2.why≠0) (h:(stepV x d s K).1=false):(stepV x d s K).2.why≠0:=by
 by_cases hq:ownV x s.n d=0
 ·rw[stepV_yes hq]at h ⊢;exact hK _ h
 ·rw[stepV_no hq];exact hq
theorem then_why {r:Bool×Cnt} {K:Cnt→Bool×Cnt} (hr:r.1=false→r.2.why≠0) (hK:∀t,(K t).1=false→(K t).2.why≠0) (h:(thenV r K).1=false):(thenV r K).2.why≠0:=by
 cases hq:r.1
 ·rw[thenV_no hq];exact hr hq
 ·rw[thenV_yes hq]at h ⊢;exact hK _ h
theorem partL_why (l:List V) (ih:∀x∈l,∀d s,(partV x d s).1=false→(partV x d s).2.why≠0):∀d s,(partL l d s).1=false→(partL l d s).2.why≠0:=by
 induction l with
 | nil=>intro d s h;cases h
 | cons x r ihr =>
  intro d s h
  exact then_why (ih x (by simp) _ _) (fun t=>ihr (fun y hy=>ih y (by simp[hy])) _ _) h
theorem partD_why (l:List (ByteArray×V)) (ih:∀p∈l,∀d s,(partV p.2 d s).1=false→(partV p.2 d s).2.why≠0):∀d s,(partD l d s).1=false→(partD l d s).2.why≠0:=by
 induction l with
 | nil=>intro d s h;cases h
 | cons p r ihr =>
  obtain ⟨n,x⟩:=p
  intro d s h
  exact then_why (ih (n,x) (by simp) _ _) (fun t=>ihr (fun y hy=>ih y (by simp[hy])) _ _) h
theorem part_why (x:V):∀d s,(partV x d s).1=false→(partV x d s).2.why≠0:=by
 induction x using V.ind with
 | h7 l ih=>intro d s h;exact step_why (fun t=>partL_why l ih _ t) h
 | h8 l ih=>intro d s h;exact step_why (fun t=>partD_why l ih _ t) h
 | h9 c v l ih=>intro d s h;exact step_why (fun t=>partD_why l ih _ t) h
 | _=>intro d s h;exact step_why (fun t ht=>by cases ht) h
def okV (x:V):Prop:=(partV x 1 ⟨0,0,0⟩).1=true
theorem okV_fine {x:V} (h:okV x):fineV x:=part_fine x _ _ h
theorem okV_check {x:V}:okV x↔(checkV x).2=0:=by
 constructor
 ·intro h;rw[checkV_yes h]
 ·intro h
  cases hq:(partV x 1 ⟨0,0,0⟩).1
  ·rw[checkV_no hq]at h;exact absurd h (part_why x _ _ hq)
  ·exact hq
noncomputable def sameV (a b:V):Bool:=decide ((checkV a).2=0)&&(decide ((checkV b).2=0)&&decide (ordV a b=0))
def BoolPost (r:Bool) (w:World) (e:Ending) (w':World):Prop:=e=.returned (.bool r)∧Below w.heap.size w w'
theorem same_any (a b:V) (va vb:Value) (w:World) (ha:Rd w w.heap.size a va) (hb:Rd w w.heap.size b vb):Calls Tryz.prog 135 #[va,vb] w (BoolPost (sameV a b) w):=by
 have H1:Hid (Calls Tryz.prog 45 #[va] w (fun e w'=>e=.returned (.tuple #[.int .i64 (checkV a).1,.int .i64 (checkV a).2])∧Below w.heap.size w w')):=Hd (check_any a va w ha)
 have H2:Hid (∀W,Below w.heap.size w W→Calls Tryz.prog 45 #[vb] W (fun e w'=>e=.returned (.tuple #[.int .i64 (checkV b).1,.int .i64 (checkV b).2])∧Below W.heap.size W w')):=Hd (fun W hW=>check_any b vb W (Rd.more hW.size _ _ (hb.below hW)))
 have H3:Hid ((checkV a).2=0→(checkV b).2=0→∀W,Below w.heap.size w W→Calls Tryz.prog 152 #[va,vb] W (OrdPost (ordV a b) W)):=Hd (fun h1 h2 W hW=>order_any a b va vb W (okV_fine (okV_check.2 h1)) (okV_fine (okV_check.2 h2)) (Rd.more hW.size _ _ (ha.below hW)) (Rd.more hW.size _ _ (hb.below hW)))
 have HR:Hid (sameV a b=(decide ((checkV a).2=0)&&(decide ((checkV b).2=0)&&decide (ordV a b=0)))):=Hd rfl
 clear ha hb
 generalize sameV a b=r at *
 generalize checkV a=ca at *
 generalize checkV b=cb at *
 generalize ordV a b=n at *
 by_cases z1:ca.2=0
 ·have e1:((ca.2:Int)==0)=true:=by rw[z1];rfl
  by_cases z2:cb.2=0
  ·have e2:((cb.2:Int)==0)=true:=by rw[z2];rfl
   have H4:=Hd (H3.out z1 z2)
   by_cases z3:n=0
   ·have e3:(n==0)=true:=by simp[z3]
    replace HR:Hid (r=true):=Hd (by rw[HR.out];simp[z1,z2,z3])
    clear z1 z2 z3 H3
    go_enter Tryz.func135,Tryz.ntmps135
    go_wp2_with fail
    refine H1.out.mono ?_
    rintro e w1 ⟨rfl,hb1⟩
    go_wp2_with fail
    refine (H2.out _ hb1).mono ?_
    rintro e w2 ⟨rfl,hb2⟩
    have hbb:=below_then hb1 (Nat.le_refl _) hb2
    go_wp2_with fail
    refine (H4.out _ hbb).mono ?_
    rintro e w3 ⟨rfl,hb3⟩
    go_wp2
    go_ret
    exact ⟨ret_bool HR.out.symm,below_then hbb (Nat.le_refl _) hb3⟩
   ·have e3:(n==0)=false:=by simp[z3]
    replace HR:Hid (r=false):=Hd (by rw[HR.out];simp[z3])
    clear z1 z2 z3 H3
    go_enter Tryz.func135,Tryz.ntmps135
    go_wp2_with fail
    refine H1.out.mono ?_
    rintro e w1 ⟨rfl,hb1⟩
    go_wp2_with fail
    refine (H2.out _ hb1).mono ?_
    rintro e w2 ⟨rfl,hb2⟩
    have hbb:=below_then hb1 (Nat.le_refl _) hb2
    go_wp2_with fail
    refine (H4.out _ hbb).mono ?_
    rintro e w3 ⟨rfl,hb3⟩
    go_wp2
    go_ret
    exact ⟨ret_bool HR.out.symm,below_then hbb (Nat.le_refl _) hb3⟩
  ·have e2:((cb.2:Int)==0)=false:=by rw[beq_eq_false_iff_ne];omega
   replace HR:Hid (r=false):=Hd (by rw[HR.out];simp[z2])
   clear z1 z2 H3
   go_enter Tryz.func135,Tryz.ntmps135
   go_wp2_with fail
   refine H1.out.mono ?_
   rintro e w1 ⟨rfl,hb1⟩
   go_wp2_with fail
   refine (H2.out _ hb1).mono ?_
   rintro e w2 ⟨rfl,hb2⟩
   have hbb:=below_then hb1 (Nat.le_refl _) hb2
   go_wp2
   go_ret
   exact ⟨ret_bool HR.out.symm,hbb⟩
 ·have e1:((ca.2:Int)==0)=false:=by rw[beq_eq_false_iff_ne];omega
  replace HR:Hid (r=false):=Hd (by rw[HR.out];simp[z1])
  clear z1 H3
  go_enter Tryz.func135,Tryz.ntmps135
  go_wp2_with fail
  refine H1.out.mono ?_
  rintro e w1 ⟨rfl,hb1⟩
  go_wp2_with fail
  refine (H2.out _ hb1).mono ?_
  rintro e w2 ⟨rfl,hb2⟩
  have hbb:=below_then hb1 (Nat.le_refl _) hb2
  go_wp2
  go_ret
  exact ⟨ret_bool HR.out.symm,hbb⟩
theorem kind_out (x:V) (v:Value) (B:Nat) (w:World) (h:Rd w B x v):Calls Tryz.prog 62 #[v] w (NumPost (kindV x) w):=by
 have HK:=Hd (kind_any x v B w h)
 clear h
 go_enter Tryz.func62,Tryz.ntmps62
 go_wp2_with fail
 refine HK.out.mono ?_
 rintro e w1 ⟨rfl,rfl⟩
 go_wp2
 go_ret
 exact ⟨rfl,rfl⟩
def CopyPost (x:V) (w:World) (e:Ending) (w':World):Prop:=
 ∃v,e=.returned (.tuple #[v,.int .i64 0])∧RdS w' (New w w') x v∧Below w.heap.size w w'
theorem copy_any (x:V) (v:Value) (w:World) (hok:okV x) (h:Rd w w.heap.size x v):Calls Tryz.prog 25 #[v] w (CopyPost x w):=by
 have H1:Hid (Calls Tryz.prog 45 #[v] w (fun e w'=>e=.returned (.tuple #[.int .i64 0,.int .i64 0])∧Below w.heap.size w w')):=Hd (by
  have:=check_any x v w h
  unfold CheckPost at this
  rw[checkV_yes hok]at this
  exact this)
 have H2:=Hd (fun (W:World) (hW:Below w.heap.size w W)=>copied_any x (okV_fine hok) v W (Rd.more hW.size _ _ (h.below hW)))
 clear h hok
 go_enter Tryz.func25,Tryz.ntmps25
 go_wp2_with fail
 refine H1.out.mono ?_
 rintro e w1 ⟨rfl,hb1⟩
 go_wp2_with fail
 refine (H2.out _ hb1).mono ?_
 rintro e w2 ⟨u,rfl,hu,hb2⟩
 go_wp2
 go_ret2
 exact ⟨u,rfl,RdS.more (fun b hb=>⟨Nat.le_trans hb1.size hb.1,hb.2⟩) _ _ hu,below_then hb1 (Nat.le_refl _) hb2⟩
open Ieee (Datum Toward)
theorem f64_binade:Ieee.double.binade=4503599627370496:=by kernel_rfl
theorem f64_sign:Ieee.double.signWeight=9223372036854775808:=by kernel_rfl
theorem f64_inf:Ieee.double.infRung=9218868437227405312:=by kernel_rfl
theorem f64_least:Ieee.double.leastPlace=-1074:=by kernel_rfl
theorem read_word (s:Bool) (k m:Nat) (hk:k≤2045) (h1:4503599627370496≤m) (h2:m<9007199254740992) :
  Ieee.double.read (Ieee.double.word s (k*4503599627370496+m))=.number s m (-1074+k):=by
 unfold Ieee.Format.read Ieee.Format.word
 rw[f64_sign,f64_binade,f64_inf,f64_least]
 have hr:k*4503599627370496+m<9218868437227405312:=by omega
 have e1:(if s=true then 9223372036854775808+(k*4503599627370496+m) else k*4503599627370496+m) / 9223372036854775808 % 2=if s=true then 1 else 0:=by
  split <;> omega
 have e2:(if s=true then 9223372036854775808+(k*4503599627370496+m) else k*4503599627370496+m) % 9223372036854775808=k*4503599627370496+m:=by
  split <;> omega
 simp only[e1,e2]
 rw[if_neg (by omega),if_pos hr]
 have e3:(k*4503599627370496+m) % 4503599627370496=m-4503599627370496:=by omega
 have e4:(k*4503599627370496+m) / 4503599627370496=k+1:=by omega
 rw[e3,e4]
 simp only[Datum.number.injEq]
 refine ⟨by cases s <;> rfl,by omega,by omega⟩
theorem read_zero (s:Bool):Ieee.double.read (Ieee.double.word s 0)=.number s 0 (-1074):=by
 cases s <;> kernel_rfl
theorem read_number {x:Nat} {s:Bool} {m:Nat} {e:Int} (h:Ieee.double.read x=.number s m e):m<9007199254740992∧(4503599627370496≤m∨e=-1074)∧-1074≤e:=by
 unfold Ieee.Format.read at h
 rw[f64_sign,f64_binade,f64_inf,f64_least]at h
 simp only at h
 split at h
 ·injection h with h1 h2 h3;subst h2;subst h3;omega
 ·split at h
  ·injection h with h1 h2 h3;subst h2;subst h3;omega
  ·split at h <;> cases h
theorem cut_none (way:Toward) (s:Bool) (n:Nat):way.cut s n 0=n:=by
 unfold Toward.cut
 simp[Nat.mod_one]
 cases way <;> simp
theorem nearest_small (s:Bool) (M:Nat) (h0:0<M) (h:M<9007199254740992) :
  ∃j,M.log2+j=52∧Ieee.double.nearest s M 0=Ieee.double.word s ((1022+M.log2)*4503599627370496+M*2 ^ j)∧4503599627370496≤M*2 ^ j∧M*2 ^ j<9007199254740992:=by
 have hL:M.log2≤52:=by
  have:=(Nat.log2_lt (by omega:M≠0) (k:=53)).2 (by omega)
  omega
 refine ⟨52-M.log2,by omega,?_,?_,?_⟩
 ·unfold Ieee.Format.nearest
  rw[if_neg (by omega),f64_least,f64_binade,f64_inf]
  have e0:max ((0:Int)+(M.log2:Int)-(Ieee.double.fractionBits:Int)) (-1074)=(M.log2:Int)-52:=by
   have:Ieee.double.fractionBits=52:=rfl
   rw[this];omega
  simp only[e0]
  rw[show ((M.log2:Int)-52-0).toNat=0 by omega,cut_none,show ((0:Int)-((M.log2:Int)-52)).toNat=52-M.log2 by omega,show ((M.log2:Int)-52 - -1074).toNat=1022+M.log2 by omega,Nat.shiftLeft_eq]
  have hlt:M*2 ^ (52-M.log2)<9007199254740992:=by
   have h1:=Nat.lt_log2_self (n:=M)
   calc M*2 ^ (52-M.log2)<2 ^ (M.log2+1)*2 ^ (52-M.log2):=Nat.mul_lt_mul_of_pos_right h1 (Nat.two_pow_pos _)
    _=2 ^ 53:=by rw[←Nat.pow_add];congr 1;omega
    _=9007199254740992:=by decide
  rw[Nat.min_eq_left (by omega)]
 ·have h1:=Nat.log2_self_le (n:=M) (by omega)
  calc 4503599627370496=2 ^ 52:=by decide
   _=2 ^ M.log2*2 ^ (52-M.log2):=by rw[←Nat.pow_add];congr 1;omega
   _≤M*2 ^ (52-M.log2):=Nat.mul_le_mul_right _ h1
 ·have h1:=Nat.lt_log2_self (n:=M)
  calc M*2 ^ (52-M.log2)<2 ^ (M.log2+1)*2 ^ (52-M.log2):=Nat.mul_lt_mul_of_pos_right h1 (Nat.two_pow_pos _)
   _=2 ^ 53:=by rw[←Nat.pow_add];congr 1;omega
   _=9007199254740992:=by decide
theorem log2_eq {M k:Nat} (h1:2 ^ k≤M) (h2:M<2 ^ (k+1)):M.log2=k:=by
 have h0:M≠0:=by have:=Nat.two_pow_pos k;omega
 have a:=(Nat.log2_lt h0 (k:=k+1)).2 h2
 have b:=(Nat.le_log2 h0 (k:=k)).2 h1
 omega
theorem toInt_neg (s:Bool) (M j:Nat) (hj:j≤52) (h1:4503599627370496≤M*2 ^ j) (h2:M*2 ^ j<9007199254740992):(Datum.number s (M*2 ^ j) (-(j:Int))).toInt .zero=some (Ieee.signed s M 0):=by
 have hl:(M*2 ^ j).log2=52:=log2_eq (by omega) (by omega)
 unfold Datum.toInt Datum.integral
 simp only
 rw[show (-(j:Int)).toNat=0 by omega,show (-(-(j:Int))).toNat=j by omega]
 unfold Toward.cut
 simp only[Nat.shiftLeft_zero,hl,Bool.toNat_false,Nat.add_zero]
 rw[Nat.min_eq_left (by omega),Nat.one_shiftLeft,Nat.mul_div_cancel _ (Nat.two_pow_pos _)]
theorem nearest_back (s:Bool) (M:Nat) (h:M<9007199254740992):(Ieee.double.read (Ieee.double.nearest s M 0)).toInt .zero=some (Ieee.signed s M 0):=by
 by_cases h0:M=0
 ·subst h0
  have:Ieee.double.nearest s 0 0=Ieee.double.word s 0:=by unfold Ieee.Format.nearest;rw[if_pos rfl]
  rw[this,read_zero]
  cases s <;> rfl
 ·obtain ⟨j,hj,h1,h2,h3⟩:=nearest_small s M (by omega) h
  rw[h1,read_word s _ _ (by omega) h2 h3,show (-1074+((1022+M.log2:Nat):Int))=-(j:Int) by omega]
  exact toInt_neg s M j (by omega) h2 h3
theorem nearest_big (s:Bool) (m e:Nat) (h1:4503599627370496≤m) (h2:m<9007199254740992) (he:e≤11):Ieee.double.read (Ieee.double.nearest s (m*2 ^ e) 0)=.number s m e:=by
 have hl:(m*2 ^ e).log2=52+e:=log2_eq (by rw[Nat.pow_add];exact Nat.mul_le_mul_right _ h1) (by rw[show 52+e+1=53+e by omega,Nat.pow_add];exact Nat.mul_lt_mul_of_pos_right h2 (Nat.two_pow_pos _))
 have hp:=Nat.two_pow_pos e
 have hne:m*2 ^ e≠0:=by have:=Nat.mul_pos (by omega:0<m) hp;omega
 have:Ieee.double.nearest s (m*2 ^ e) 0=Ieee.double.word s ((1074+e)*4503599627370496+m):=by
  unfold Ieee.Format.nearest
  rw[if_neg hne,f64_least,f64_binade,f64_inf,hl]
  have e0:max ((0:Int)+((52+e:Nat):Int)-(Ieee.double.fractionBits:Int)) (-1074)=(e:Int):=by
   have:Ieee.double.fractionBits=52:=rfl
   rw[this];omega
  simp only[e0]
  rw[show ((e:Int)-0).toNat=e by omega,show ((0:Int)-(e:Int)).toNat=0 by omega,show ((e:Int) - -1074).toNat=1074+e by omega,Nat.shiftLeft_zero]
  have hc:Toward.even.cut s (m*2 ^ e) e=m:=by
   unfold Toward.cut
   simp only[hl]
   rw[Nat.min_eq_left (by omega),Nat.one_shiftLeft,Nat.mul_div_cancel _ hp,Nat.mul_mod_left]
   have:(decide (2 ^ e<2*0) || 2 ^ e==2*0&&m % 2==1)=false:=by
    have:2 ^ e≠0:=by omega
    simp
   rw[this];rfl
  rw[hc,Nat.min_eq_left (by omega)]
 rw[this,read_word s _ _ (by omega) h1 h2]
 congr 1;omega
theorem cut_small (way:Toward) (s:Bool) (m d:Nat) (h:m<9007199254740992) (hd:0<d):way.cut s m d<9007199254740992:=by
 unfold Toward.cut
 simp only
 refine Nat.lt_of_le_of_lt (Nat.add_le_add_left (Bool.toNat_le _) _) ?_
 have hg:2≤1 <<< min d (m.log2+2):=by
  rw[Nat.one_shiftLeft]
  calc 2=2 ^ 1:=rfl
   _≤2 ^ min d (m.log2+2):=Nat.pow_le_pow_right (by omega) (by omega)
 have:m / (1 <<< min d (m.log2+2))≤m / 2:=Nat.div_le_div_left hg (by omega)
 omega
theorem signed_zero (s:Bool) (M:Nat):Ieee.signed s M 0=if s=true then -(M:Int) else (M:Int):=by
 unfold Ieee.signed;rw[Nat.shiftLeft_zero]
theorem whole_back (way:Toward) (x:Nat) (n:Int) (h:(FloatKind.f64.decode x).toInt way=some n) (h1:-9223372036854775808≤n) (h2:n≤9223372036854775808) :
  (FloatKind.f64.decode (FloatKind.f64.encode ((FloatKind.f64.decode x).integral way))).toInt .zero=some n:=by
 change (Ieee.double.read x).toInt way=some n at h
 change (Ieee.double.read (Ieee.double.write ((Ieee.double.read x).integral way))).toInt .zero=some n
 cases hd:Ieee.double.read x with
 | infinity s=>rw[hd]at h;cases h
 | nan s t=>rw[hd]at h;cases h
 | number s m e =>
  rw[hd]at h
  obtain ⟨q1,q2,q3⟩:=read_number hd
  unfold Datum.toInt Datum.integral at h
  simp only[Option.some.injEq]at h
  subst h
  unfold Datum.integral Ieee.Format.write
  simp only
  by_cases he:0≤e
  ·obtain ⟨k,rfl⟩:=Int.eq_ofNat_of_zero_le he
   have hm:4503599627370496≤m:=by omega
   rw[show ((k:Int)).toNat=k by omega,show (-(k:Int)).toNat=0 by omega,cut_none,signed_zero,Nat.shiftLeft_eq]at h1 h2 ⊢
   have hk:k≤11:=by
    by_cases hk:k≤11
    ·exact hk
    ·exfalso
     have:m*2 ^ 12≤m*2 ^ k:=Nat.mul_le_mul_left _ (Nat.pow_le_pow_right (by omega) (by omega))
     generalize m*2 ^ k=z at *
     cases s <;> simp at h1 h2 <;> omega
   rw[nearest_big s m k hm q1 hk]
   unfold Datum.toInt Datum.integral
   simp only
   rw[show ((k:Int)).toNat=k by omega,show (-(k:Int)).toNat=0 by omega,cut_none,signed_zero,Nat.shiftLeft_eq]
  ·rw[show e.toNat=0 by omega,Nat.shiftLeft_zero]at h1 h2 ⊢
   exact nearest_back s _ (cut_small way s m _ q1 (by omega))
open Ieee (Datum Toward)
def ordF (x y:Nat):Option Ordering:=FloatKind.f64.format.order x y
def nanB (x:Nat):Bool:=ordF x x != some .eq
theorem read_low:Ieee.double.read 14114281232179134464=.number true 4503599627370496 11:=by kernel_rfl
theorem read_high:Ieee.double.read 4890909195324358656=.number false 4503599627370496 11:=by kernel_rfl
theorem not_nan {x:Nat} (h:nanB x=false):∀s t,FloatKind.f64.decode x≠.nan s t:=by
 intro s t hd
 change Ieee.double.read x=.nan s t at hd
 have:ordF x x=none:=by
  change (Ieee.double.read x).order (Ieee.double.read x)=none
  rw[hd];rfl
 unfold nanB at h
 rw[this]at h;cases h
theorem in_range (way:Toward) {x:Nat} (hn:∀s t,FloatKind.f64.decode x≠.nan s t) (h1:ordF x 14114281232179134464≠some .lt) (h2:ordF x 4890909195324358656=some .lt) :
  ∃n,(FloatKind.f64.decode x).toInt way=some n∧-9223372036854775808≤n∧n<9223372036854775808:=by
 change (Ieee.double.read x).order (Ieee.double.read 14114281232179134464)≠some .lt at h1
 change (Ieee.double.read x).order (Ieee.double.read 4890909195324358656)=some .lt at h2
 change ∃n,(Ieee.double.read x).toInt way=some n∧_
 rw[read_low]at h1
 rw[read_high]at h2
 cases hd:Ieee.double.read x with
 | nan s t=>exact absurd hd (hn s t)
 | infinity s=>rw[hd]at h1 h2;cases s <;> simp[Datum.order]at h1 h2
 | number s m e =>
  rw[hd]at h1 h2
  obtain ⟨q1,q2,q3⟩:=read_number hd
  unfold Datum.order at h1 h2
  simp only[Option.some.injEq,ne_eq]at h1 h2
  unfold Datum.toInt Datum.integral
  simp only[Option.some.injEq,exists_eq_left']
  by_cases he:0≤e
  ·obtain ⟨k,rfl⟩:=Int.eq_ofNat_of_zero_le he
   rw[show ((k:Int)).toNat=k by omega,show (-(k:Int)).toNat=0 by omega,cut_none,signed_zero,Nat.shiftLeft_eq]
   have hm:4503599627370496≤m:=by omega
   by_cases hk:k≤10
   ·have:m*2 ^ k≤9007199254740991*2 ^ 10:=Nat.mul_le_mul (by omega) (Nat.pow_le_pow_right (by omega) hk)
    generalize m*2 ^ k=z at *
    cases s <;> simp <;> omega
   ·have e0:min (k:Int) 11=11:=by omega
    rw[e0,show ((k:Int)-11).toNat=k-11 by omega,show ((11:Int)-11).toNat=0 by omega]at h1 h2
    unfold Ieee.signed at h1 h2
    simp only[Nat.shiftLeft_zero,Nat.shiftLeft_eq,if_true]at h1 h2
    by_cases hk2:k=11
    ·subst hk2
     cases s
     ·simp[Int.compare_eq_lt]at h1 h2;omega
     ·simp[Int.compare_eq_lt]at h1 h2 ⊢;omega
    ·have:m*2 ^ 1≤m*2 ^ (k-11):=Nat.mul_le_mul_left _ (Nat.pow_le_pow_right (by omega) (by omega))
     generalize m*2 ^ (k-11)=z at *
     exfalso
     cases s
     ·simp[Int.compare_eq_lt]at h1 h2;omega
     ·simp[Int.compare_eq_lt]at h1 h2;omega
  ·have:=cut_small way s m (-e).toNat q1 (by omega)
   rw[show e.toNat=0 by omega,Nat.shiftLeft_zero,signed_zero]
   generalize way.cut s m (-e).toNat=z at *
   cases s <;> simp <;> omega
open Ieee (Datum Toward)
def wholeF (way:Toward) (x:Nat):Nat:=FloatKind.f64.encode ((FloatKind.f64.decode x).integral way)
theorem run_to_integral {P:Program} (name:String) (way:Toward) (x:Nat) (w:World) (hn:∀s t,FloatKind.f64.decode x≠.nan s t) :
  (Extern.MathFloor.toIntegral name way #[.float .f64 x]).run P w=.ok (.float .f64 (wholeF way x)) w:=by
 have key:∀d,FloatKind.f64.decode x=d→(Extern.MathFloor.toIntegral name way #[.float .f64 x]).run P w=.ok (.float .f64 (FloatKind.f64.encode (d.integral way))) w:=by
  intro d hd
  change Sem.run P (match FloatKind.f64.decode x with | .nan s t=>_|d=>(pure (Value.float .f64 (FloatKind.f64.encode (d.integral way))):Sem Value)) w=_
  rw[hd]at hn ⊢
  cases d with
  | nan s t=>exact absurd rfl (hn s t)
  | number s m e=>rfl
  | infinity s=>rfl
 exact key _ rfl
theorem run_archFloor (x:Nat) (w:World) (hn:∀s t,FloatKind.f64.decode x≠.nan s t):(callFunc 180 #[.float .f64 x]).run Tryz.prog w=.ok (.value (.float .f64 (wholeF .down x))) w:=by
 rw [run_callFunc_extern Tryz.func180 (by kernel_rfl) (by kernel_rfl) (by kernel_rfl) (e := Extern.MathFloor.toIntegral "math.archFloor" .down) (by kernel_rfl), run_to_integral _ _ _ _ hn]; rfl
theorem mathFloor_any (x:Nat) (w:World) (hn:∀s t,FloatKind.f64.decode x≠.nan s t):Calls Tryz.prog 155 #[.float .f64 x] w (fun e w'=>e=.returned (.float .f64 (wholeF .down x))∧w=w'):=by
 have k0:=fun (w:World)=>run_archFloor x w hn
 clear hn
 go_enter Tryz.func155,Tryz.ntmps155
 go_wp2
 go_ret
 exact ⟨rfl,rfl⟩
theorem run_archCeil (x:Nat) (w:World) (hn:∀s t,FloatKind.f64.decode x≠.nan s t):(callFunc 178 #[.float .f64 x]).run Tryz.prog w=.ok (.value (.float .f64 (wholeF .up x))) w:=by
 rw [run_callFunc_extern Tryz.func178 (by kernel_rfl) (by kernel_rfl) (by kernel_rfl) (e := Extern.MathFloor.toIntegral "math.archCeil" .up) (by kernel_rfl), run_to_integral _ _ _ _ hn]; rfl
theorem mathCeil_any (x:Nat) (w:World) (hn:∀s t,FloatKind.f64.decode x≠.nan s t):Calls Tryz.prog 154 #[.float .f64 x] w (fun e w'=>e=.returned (.float .f64 (wholeF .up x))∧w=w'):=by
 have k0:=fun (w:World)=>run_archCeil x w hn
 clear hn
 go_enter Tryz.func154,Tryz.ntmps154
 go_wp2
 go_ret
 exact ⟨rfl,rfl⟩
theorem run_archTrunc (x:Nat) (w:World) (hn:∀s t,FloatKind.f64.decode x≠.nan s t):(callFunc 166 #[.float .f64 x]).run Tryz.prog w=.ok (.value (.float .f64 (wholeF .zero x))) w:=by
 rw [run_callFunc_extern Tryz.func166 (by kernel_rfl) (by kernel_rfl) (by kernel_rfl) (e := Extern.MathFloor.toIntegral "math.archTrunc" .zero) (by kernel_rfl), run_to_integral _ _ _ _ hn]; rfl
theorem mathTrunc_any (x:Nat) (w:World) (hn:∀s t,FloatKind.f64.decode x≠.nan s t):Calls Tryz.prog 151 #[.float .f64 x] w (fun e w'=>e=.returned (.float .f64 (wholeF .zero x))∧w=w'):=by
 have k0:=fun (w:World)=>run_archTrunc x w hn
 clear hn
 go_enter Tryz.func151,Tryz.ntmps151
 go_wp2
 go_ret
 exact ⟨rfl,rfl⟩
theorem isNaN_any (x:Nat) (w:World):Calls Tryz.prog 129 #[.float .f64 x] w (fun e w'=>e=.returned (.bool (nanB x))∧w=w'):=by
 go_enter Tryz.func129,Tryz.ntmps129
 go_wp2
 go_ret
 exact ⟨rfl,rfl⟩
def oneV (x:Nat):Nat:=if nanB x=true then 9221120237041090561 else x
theorem one_any (x:Nat) (w:World):Calls Tryz.prog 93 #[.float .f64 x] w (fun e w'=>e=.returned (.float .f64 (oneV x))∧w=w'):=by
 have HN:=Hd (isNaN_any x w)
 have k0:∀w:World,(callFunc 132 #[.int .u64 9221120237041090561]).run Tryz.prog w=.ok (.value (.float .f64 9221120237041090561)) w:=fun w=>run_f64from 9221120237041090561 w
 cases hq:nanB x
 ·have HR:Hid (oneV x=x):=Hd (by unfold oneV;rw[hq];rfl)
  rw[hq]at HN
  clear hq
  go_enter Tryz.func93,Tryz.ntmps93
  go_wp2_with fail
  refine HN.out.mono ?_
  rintro e w1 ⟨rfl,rfl⟩
  go_wp2
  go_ret
  exact ⟨by rw[HR.out];rfl,rfl⟩
 ·have HR:Hid (oneV x=9221120237041090561):=Hd (by unfold oneV;rw[hq];rfl)
  rw[hq]at HN
  clear hq
  go_enter Tryz.func93,Tryz.ntmps93
  go_wp2_with fail
  refine HN.out.mono ?_
  rintro e w1 ⟨rfl,rfl⟩
  go_wp2
  go_ret
  exact ⟨by rw[HR.out];rfl,rfl⟩
end Go.Proofs.YtbemeapjeipjlaaGreatDoor
