/- Walks: query.can of a field, of is; query.can, valid. -/
import Derived.Test.YtbemeapjeipjlaaGreatDoorQN29
set_option linter.unusedVariables false
set_option linter.unusedSimpArgs false
namespace Go.Proofs.YtbemeapjeipjlaaGreatDoor
open Go Go.RowKit
set_option maxRecDepth 100000
set_option maxHeartbeats 8000000
attribute [local go_sem] ta_no_bool ta_yes_bool ta_nil_bool ta_no_int64 ta_yes_int64 ta_nil_int64 ta_no_flt ta_yes_flt ta_nil_flt ta_no_str ta_yes_str ta_nil_str ta_no_byt ta_yes_byt ta_nil_byt ta_no_ref ta_yes_ref ta_nil_ref ta_no_lst ta_yes_lst ta_nil_lst ta_no_dct ta_yes_dct ta_nil_dct ta_no_rec ta_yes_rec ta_nil_rec
theorem can_field (a:Int) (l:List Ex) (nm:ByteArray) (t:Tm) (ih:∀x∈l,CanC x) (x:List Value) (k:Int) (S:Nat→Prop) (w:World) (bl:Nat) (hS:Seen S w bl) (hbl:bl<w.heap.size) (hk:0≤k) (hk2:k≤16384) (hx:RdES w S (.mk oField a l nm t) x) (hw:Words w S 1 kindWords) (hw2:Words w S 2 wordList) (hh:Hold w bl 0 (.int .i64 k)) (h0:0≤k-1) (ht0:¬takesV oField nm<0) (ht9:takesV oField nm=9∨(takesV oField nm≠9∧(l.length:Int)=takesV oField nm)) :
  Calls Tryz.prog 57 #[termOf x,.pointer (some ⟨bl,0,none⟩)] w (CanPost bl (canV (.mk oField a l nm t) k) w):=by
 have hcond:¬(k-1<0∨takesV oField nm<0∨(takesV oField nm≠9∧((canVL l).length:Int)≠takesV oField nm)):=by rw[show (canVL l).length=l.length by rw[canVL_eq];simp];omega
 have HU:Hid (canV (.mk oField a l nm t) k=if partOK oField nm t=true then canAll (canVL l) (k-1) else (false,k-1)):=Hd (by rw[canV];unfold canS;rw[if_neg hcond])
 clear hcond
 have hpo:partOK oField nm t=(nameOK nm&&!decide (0≤idxW wordList nm 0)):=by unfold partOK;rw[if_neg (by decide),if_pos rfl]
 rw[hpo]at HU
 obtain ⟨A,c,y,rfl,hops,ha,hns,hty,hll,hp⟩:=hx
 replace hp:PartsS w S A l:=hp
 have hy:Eleven y:=hty.elevenS
 have HTk:=Hd (fun (W:World)=>takes_any oField a (.slice A l.length c) nm y hy rfl W)
 have HLit:=Hd (fun (W:World) (hW:Aside bl w W)=>literal_any t y W (RdTS.more (fun b hb=>(hS.to hW.size b hb).1) _ _ (RdTS.keep (fun p hp=>hW.cell (hS _ hp).1 (hS _ hp).2) _ _ hty)))
 obtain ⟨n0,n1,n2,n3,n4,n5,n6,n7,n8,n9,n10,rfl,h1c⟩:=hy
 clear h1c
 have hh1:Hold (w.setCell ⟨bl,0,none⟩ (.int .i64 (k-1))) bl 0 (.int .i64 (k-1)):=hh.set _
 have hbl0:bl<(w.setCell ⟨bl,0,none⟩ (.int .i64 (k-1))).heap.size:=by simp;omega
 have hba:Below (w.setCell ⟨bl,0,none⟩ (.int .i64 (k-1))).heap.size (w.setCell ⟨bl,0,none⟩ (.int .i64 (k-1))) (((w.setCell ⟨bl,0,none⟩ (.int .i64 (k-1))).alloc (.cells #[.string oField,.int .i64 a,.slice A l.length c,.string nm,n0,n1,n2,n3,n4,n5,n6,n7,n8,n9,n10] 32)).alloc (.cells #[.pointer (some ⟨bl,0,none⟩)] 109)):=bnew.alloc (by simp) _
 have HA1:Hid (Aside bl w (((w.setCell ⟨bl,0,none⟩ (.int .i64 (k-1))).alloc (.cells #[.string oField,.int .i64 a,.slice A l.length c,.string nm,n0,n1,n2,n3,n4,n5,n6,n7,n8,n9,n10] 32)).alloc (.cells #[.pointer (some ⟨bl,0,none⟩)] 109))):=Hd ((Aside.set 0 _).trans (Aside.of_below hba))
 have HH1:Hid (Hold (((w.setCell ⟨bl,0,none⟩ (.int .i64 (k-1))).alloc (.cells #[.string oField,.int .i64 a,.slice A l.length c,.string nm,n0,n1,n2,n3,n4,n5,n6,n7,n8,n9,n10] 32)).alloc (.cells #[.pointer (some ⟨bl,0,none⟩)] 109)) bl 0 (.int .i64 (k-1))):=Hd (hh1.below hba hbl0)
 have e0:wrap64 (k-1)=k-1:=by unfold wrap64;omega
 have HSz:Hid ((((w.setCell ⟨bl,0,none⟩ (.int .i64 (k-1))).alloc (.cells #[.string oField,.int .i64 a,.slice A l.length c,.string nm,n0,n1,n2,n3,n4,n5,n6,n7,n8,n9,n10] 32)).alloc (.cells #[.pointer (some ⟨bl,0,none⟩)] 109)).heap.size=w.heap.size+2):=Hd (by simp)
 have hne:w.heap.size≠bl:=by omega
 have hne1:w.heap.size+1≠bl:=by omega
 obtain ⟨hc0,hf0⟩:=hh
 have hc1:(w.setCell ⟨bl,0,none⟩ (.int .i64 (k-1))).cell? ⟨bl,0,none⟩=some (.int .i64 (k-1)):=hh1.1
 clear hh1 hba hty
 have HCF:=Hd (fun (W:World) (hW:Below (((w.setCell ⟨bl,0,none⟩ (.int .i64 (k-1))).alloc (.cells #[.string oField,.int .i64 a,.slice A l.length c,.string nm,n0,n1,n2,n3,n4,n5,n6,n7,n8,n9,n10] 32)).alloc (.cells #[.pointer (some ⟨bl,0,none⟩)] 109)).heap.size (((w.setCell ⟨bl,0,none⟩ (.int .i64 (k-1))).alloc (.cells #[.string oField,.int .i64 a,.slice A l.length c,.string nm,n0,n1,n2,n3,n4,n5,n6,n7,n8,n9,n10] 32)).alloc (.cells #[.pointer (some ⟨bl,0,none⟩)] 109)) W) (h0:0≤k-1)=>containsE_any l ih A c (k-1) S W bl (w.heap.size+1) (hS.to (Nat.le_trans HA1.out.size hW.size)) (by have:=hW.size;rw[HSz.out]at this;omega) h0 (by omega) hll (PartsS.asideS hp hS (HA1.out.trans (Aside.of_below hW))) (hw.aside hS (HA1.out.trans (Aside.of_below hW))) (hw2.aside hS (HA1.out.trans (Aside.of_below hW))) (HH1.out.below hW (by rw[HSz.out];omega)) (by have:=hW.size;rw[HSz.out]at this;omega) hne1 ((hW.cell (p:=⟨w.heap.size+1,0,none⟩) (by rw[HSz.out];show w.heap.size+1<_;omega)).trans (by simp[go_sem])))
 have HW1:=Hd (fun (W:World) (hW:Aside bl w W)=>hw.aside hS hW)
 have HW2:=Hd (fun (W:World) (hW:Aside bl w W)=>hw2.aside hS hW)
 have hmf:∀(fn:Fn) (first cap:Array Value) (W:World),(Instr.makeFunc fn first cap).run Tryz.prog W=.ok (.func fn first cap) W:=fun _ _ _ _=>rfl
 clear ih hp hw hw2
 unfold termOf eV at *
 unfold CanPost at HCF
 have HNm:=Hd (fun (W:World)=>qname_any nm W hns)
 unfold BoolPost at HNm
 cases hn:nameOK nm with
 | false =>
  rw[hn]at HNm
  have hpk:(nameOK nm&&!decide (0≤idxW wordList nm 0))=false:=by rw[hn];rfl
  have HF:Hid (canV (.mk oField a l nm t) k=(false,k-1)):=Hd (by rw[HU.out,hn];rfl)
  generalize takesV oField nm=tk at *
  rcases ht9 with rfl|⟨g3,g4⟩
  ·go_enter Tryz.func57,Tryz.ntmps57
   go_wp2_with fail
   refine (HTk.out _).mono ?_
   rintro e w2 ⟨rfl,hb2⟩
   have qe:=fun (o:Nat)=>hb2.cell (p:=⟨w.heap.size,o,none⟩) (by rw[HSz.out];show w.heap.size<_;omega)
   have qp:=fun (o:Nat)=>hb2.cell (p:=⟨w.heap.size+1,o,none⟩) (by rw[HSz.out];show w.heap.size+1<_;omega)
   have qh:=(hb2.cell (p:=⟨bl,0,none⟩) (by rw[HSz.out];show bl<_;omega)).trans HH1.out.1
   go_wp2_with fail
   refine (HNm.out w2).mono ?_
   rintro e w3 ⟨rfl,hb3⟩
   have hbb:=below_then hb2 (Nat.le_refl _) hb3
   have qe3:=fun (o:Nat)=>(hbb).cell (p:=⟨w.heap.size,o,none⟩) (by rw[HSz.out];show w.heap.size<_;omega)
   have qp3:=fun (o:Nat)=>(hbb).cell (p:=⟨w.heap.size+1,o,none⟩) (by rw[HSz.out];show w.heap.size+1<_;omega)
   go_wp2
   go_ret
   exact ⟨ret_bool (by rw[HF.out]),HA1.out.trans (Aside.of_below hbb),by rw[HF.out];exact HH1.out.below hbb (by rw[HSz.out];omega)⟩
  ·have g5:((l.length:Int)!=tk)=false:=by simp[g4]
   go_enter Tryz.func57,Tryz.ntmps57
   go_wp2_with fail
   refine (HTk.out _).mono ?_
   rintro e w2 ⟨rfl,hb2⟩
   have qe:=fun (o:Nat)=>hb2.cell (p:=⟨w.heap.size,o,none⟩) (by rw[HSz.out];show w.heap.size<_;omega)
   have qp:=fun (o:Nat)=>hb2.cell (p:=⟨w.heap.size+1,o,none⟩) (by rw[HSz.out];show w.heap.size+1<_;omega)
   have qh:=(hb2.cell (p:=⟨bl,0,none⟩) (by rw[HSz.out];show bl<_;omega)).trans HH1.out.1
   go_wp2_with fail
   refine (HNm.out w2).mono ?_
   rintro e w3 ⟨rfl,hb3⟩
   have hbb:=below_then hb2 (Nat.le_refl _) hb3
   have qe3:=fun (o:Nat)=>(hbb).cell (p:=⟨w.heap.size,o,none⟩) (by rw[HSz.out];show w.heap.size<_;omega)
   have qp3:=fun (o:Nat)=>(hbb).cell (p:=⟨w.heap.size+1,o,none⟩) (by rw[HSz.out];show w.heap.size+1<_;omega)
   go_wp2
   go_ret
   exact ⟨ret_bool (by rw[HF.out]),HA1.out.trans (Aside.of_below hbb),by rw[HF.out];exact HH1.out.below hbb (by rw[HSz.out];omega)⟩
 | true =>
  rw[hn]at HNm HU
  by_cases hi:0≤idxW wordList nm 0
  ·have HF:Hid (canV (.mk oField a l nm t) k=(false,k-1)):=Hd (by rw[HU.out,decide_eq_true hi];rfl)
   generalize takesV oField nm=tk at *
   rcases ht9 with rfl|⟨g3,g4⟩
   ·go_enter Tryz.func57,Tryz.ntmps57
    go_wp2_with fail
    refine (HTk.out _).mono ?_
    rintro e w2 ⟨rfl,hb2⟩
    have qe:=fun (o:Nat)=>hb2.cell (p:=⟨w.heap.size,o,none⟩) (by rw[HSz.out];show w.heap.size<_;omega)
    have qp:=fun (o:Nat)=>hb2.cell (p:=⟨w.heap.size+1,o,none⟩) (by rw[HSz.out];show w.heap.size+1<_;omega)
    have qh:=(hb2.cell (p:=⟨bl,0,none⟩) (by rw[HSz.out];show bl<_;omega)).trans HH1.out.1
    go_wp2_with fail
    refine (HNm.out w2).mono ?_
    rintro e w3 ⟨rfl,hb3⟩
    have hbb:=below_then hb2 (Nat.le_refl _) hb3
    have qe3:=fun (o:Nat)=>(hbb).cell (p:=⟨w.heap.size,o,none⟩) (by rw[HSz.out];show w.heap.size<_;omega)
    have qp3:=fun (o:Nat)=>(hbb).cell (p:=⟨w.heap.size+1,o,none⟩) (by rw[HSz.out];show w.heap.size+1<_;omega)
    obtain ⟨hg2,bk,ok,ck,hSk,g0,gs⟩:=HW2.out _ (HA1.out.trans (Aside.of_below hbb))
    have HCo:=Hd (wcontains_any wordList bk ok ck nm _ (by decide) gs)
    have hlen:wordList.length=10:=rfl
    rw[hlen]at g0 HCo
    clear gs
    rw[decide_eq_true hi]at HCo
    go_wp2_with fail
    refine HCo.out.mono ?_
    rintro e w4 ⟨rfl,rfl⟩
    go_wp2
    go_ret
    exact ⟨ret_bool (by rw[HF.out]),HA1.out.trans (Aside.of_below hbb),by rw[HF.out];exact HH1.out.below hbb (by rw[HSz.out];omega)⟩
   ·have g5:((l.length:Int)!=tk)=false:=by simp[g4]
    go_enter Tryz.func57,Tryz.ntmps57
    go_wp2_with fail
    refine (HTk.out _).mono ?_
    rintro e w2 ⟨rfl,hb2⟩
    have qe:=fun (o:Nat)=>hb2.cell (p:=⟨w.heap.size,o,none⟩) (by rw[HSz.out];show w.heap.size<_;omega)
    have qp:=fun (o:Nat)=>hb2.cell (p:=⟨w.heap.size+1,o,none⟩) (by rw[HSz.out];show w.heap.size+1<_;omega)
    have qh:=(hb2.cell (p:=⟨bl,0,none⟩) (by rw[HSz.out];show bl<_;omega)).trans HH1.out.1
    go_wp2_with fail
    refine (HNm.out w2).mono ?_
    rintro e w3 ⟨rfl,hb3⟩
    have hbb:=below_then hb2 (Nat.le_refl _) hb3
    have qe3:=fun (o:Nat)=>(hbb).cell (p:=⟨w.heap.size,o,none⟩) (by rw[HSz.out];show w.heap.size<_;omega)
    have qp3:=fun (o:Nat)=>(hbb).cell (p:=⟨w.heap.size+1,o,none⟩) (by rw[HSz.out];show w.heap.size+1<_;omega)
    obtain ⟨hg2,bk,ok,ck,hSk,g0,gs⟩:=HW2.out _ (HA1.out.trans (Aside.of_below hbb))
    have HCo:=Hd (wcontains_any wordList bk ok ck nm _ (by decide) gs)
    have hlen:wordList.length=10:=rfl
    rw[hlen]at g0 HCo
    clear gs
    rw[decide_eq_true hi]at HCo
    go_wp2_with fail
    refine HCo.out.mono ?_
    rintro e w4 ⟨rfl,rfl⟩
    go_wp2
    go_ret
    exact ⟨ret_bool (by rw[HF.out]),HA1.out.trans (Aside.of_below hbb),by rw[HF.out];exact HH1.out.below hbb (by rw[HSz.out];omega)⟩
  ·have HF:Hid (canV (.mk oField a l nm t) k=canAll (canVL l) (k-1)):=Hd (by rw[HU.out,decide_eq_false hi];rfl)
   have hdi:=Hd (decide_eq_false hi)
   generalize takesV oField nm=tk at *
   rcases ht9 with rfl|⟨g3,g4⟩
   ·go_enter Tryz.func57,Tryz.ntmps57
    go_wp2_with fail
    refine (HTk.out _).mono ?_
    rintro e w2 ⟨rfl,hb2⟩
    have qe:=fun (o:Nat)=>hb2.cell (p:=⟨w.heap.size,o,none⟩) (by rw[HSz.out];show w.heap.size<_;omega)
    have qp:=fun (o:Nat)=>hb2.cell (p:=⟨w.heap.size+1,o,none⟩) (by rw[HSz.out];show w.heap.size+1<_;omega)
    have qh:=(hb2.cell (p:=⟨bl,0,none⟩) (by rw[HSz.out];show bl<_;omega)).trans HH1.out.1
    go_wp2_with fail
    refine (HNm.out w2).mono ?_
    rintro e w3 ⟨rfl,hb3⟩
    have hbb:=below_then hb2 (Nat.le_refl _) hb3
    have qe3:=fun (o:Nat)=>(hbb).cell (p:=⟨w.heap.size,o,none⟩) (by rw[HSz.out];show w.heap.size<_;omega)
    have qp3:=fun (o:Nat)=>(hbb).cell (p:=⟨w.heap.size+1,o,none⟩) (by rw[HSz.out];show w.heap.size+1<_;omega)
    obtain ⟨hg2,bk,ok,ck,hSk,g0,gs⟩:=HW2.out _ (HA1.out.trans (Aside.of_below hbb))
    have HCo:=Hd (wcontains_any wordList bk ok ck nm _ (by decide) gs)
    have hlen:wordList.length=10:=rfl
    rw[hlen]at g0 HCo
    clear gs
    rw[hdi.out]at HCo
    go_wp2_with fail
    refine HCo.out.mono ?_
    rintro e w4 ⟨rfl,rfl⟩
    go_wp2_with fail
    refine (HCF.out _ hbb h0).mono ?_
    rintro e w9 ⟨rfl,hA9,hH9⟩
    go_wp2
    go_ret
    exact ⟨ret_bool (by rw[HF.out] <;> simp),HA1.out.trans ((Aside.of_below hbb).trans hA9),by rw[HF.out];exact hH9⟩
   ·have g5:((l.length:Int)!=tk)=false:=by simp[g4]
    go_enter Tryz.func57,Tryz.ntmps57
    go_wp2_with fail
    refine (HTk.out _).mono ?_
    rintro e w2 ⟨rfl,hb2⟩
    have qe:=fun (o:Nat)=>hb2.cell (p:=⟨w.heap.size,o,none⟩) (by rw[HSz.out];show w.heap.size<_;omega)
    have qp:=fun (o:Nat)=>hb2.cell (p:=⟨w.heap.size+1,o,none⟩) (by rw[HSz.out];show w.heap.size+1<_;omega)
    have qh:=(hb2.cell (p:=⟨bl,0,none⟩) (by rw[HSz.out];show bl<_;omega)).trans HH1.out.1
    go_wp2_with fail
    refine (HNm.out w2).mono ?_
    rintro e w3 ⟨rfl,hb3⟩
    have hbb:=below_then hb2 (Nat.le_refl _) hb3
    have qe3:=fun (o:Nat)=>(hbb).cell (p:=⟨w.heap.size,o,none⟩) (by rw[HSz.out];show w.heap.size<_;omega)
    have qp3:=fun (o:Nat)=>(hbb).cell (p:=⟨w.heap.size+1,o,none⟩) (by rw[HSz.out];show w.heap.size+1<_;omega)
    obtain ⟨hg2,bk,ok,ck,hSk,g0,gs⟩:=HW2.out _ (HA1.out.trans (Aside.of_below hbb))
    have HCo:=Hd (wcontains_any wordList bk ok ck nm _ (by decide) gs)
    have hlen:wordList.length=10:=rfl
    rw[hlen]at g0 HCo
    clear gs
    rw[hdi.out]at HCo
    go_wp2_with fail
    refine HCo.out.mono ?_
    rintro e w4 ⟨rfl,rfl⟩
    go_wp2_with fail
    refine (HCF.out _ hbb h0).mono ?_
    rintro e w9 ⟨rfl,hA9,hH9⟩
    go_wp2
    go_ret
    exact ⟨ret_bool (by rw[HF.out] <;> simp),HA1.out.trans ((Aside.of_below hbb).trans hA9),by rw[HF.out];exact hH9⟩
theorem can_is (a:Int) (l:List Ex) (nm:ByteArray) (t:Tm) (ih:∀x∈l,CanC x) (x:List Value) (k:Int) (S:Nat→Prop) (w:World) (bl:Nat) (hS:Seen S w bl) (hbl:bl<w.heap.size) (hk:0≤k) (hk2:k≤16384) (hx:RdES w S (.mk oIs a l nm t) x) (hw:Words w S 1 kindWords) (hw2:Words w S 2 wordList) (hh:Hold w bl 0 (.int .i64 k)) (h0:0≤k-1) (ht0:¬takesV oIs nm<0) (ht9:takesV oIs nm=9∨(takesV oIs nm≠9∧(l.length:Int)=takesV oIs nm)) :
  Calls Tryz.prog 57 #[termOf x,.pointer (some ⟨bl,0,none⟩)] w (CanPost bl (canV (.mk oIs a l nm t) k) w):=by
 have hcond:¬(k-1<0∨takesV oIs nm<0∨(takesV oIs nm≠9∧((canVL l).length:Int)≠takesV oIs nm)):=by rw[show (canVL l).length=l.length by rw[canVL_eq];simp];omega
 have HU:Hid (canV (.mk oIs a l nm t) k=if partOK oIs nm t=true then canAll (canVL l) (k-1) else (false,k-1)):=Hd (by rw[canV];unfold canS;rw[if_neg hcond])
 clear hcond
 have hpo:partOK oIs nm t=(decide (nm≠⟨#[]⟩)&&decide (0≤idxW kindWords nm 0)):=by unfold partOK;rw[if_neg (by decide),if_neg (by decide),if_neg (by decide),if_pos rfl]
 rw[hpo]at HU
 by_cases he:nm=⟨#[]⟩
 ·subst he
  have HF:Hid (canV (.mk oIs a l ⟨#[]⟩ t) k=(false,k-1)):=Hd (by rw[HU.out,decide_eq_false (fun h=>h rfl)];rfl)
  obtain ⟨A,c,y,rfl,hops,ha,hns,hty,hll,hp⟩:=hx
  replace hp:PartsS w S A l:=hp
  have hy:Eleven y:=hty.elevenS
  have HTk:=Hd (fun (W:World)=>takes_any oIs a (.slice A l.length c) ⟨#[]⟩ y hy rfl W)
  have HLit:=Hd (fun (W:World) (hW:Aside bl w W)=>literal_any t y W (RdTS.more (fun b hb=>(hS.to hW.size b hb).1) _ _ (RdTS.keep (fun p hp=>hW.cell (hS _ hp).1 (hS _ hp).2) _ _ hty)))
  obtain ⟨n0,n1,n2,n3,n4,n5,n6,n7,n8,n9,n10,rfl,h1c⟩:=hy
  clear h1c
  have hh1:Hold (w.setCell ⟨bl,0,none⟩ (.int .i64 (k-1))) bl 0 (.int .i64 (k-1)):=hh.set _
  have hbl0:bl<(w.setCell ⟨bl,0,none⟩ (.int .i64 (k-1))).heap.size:=by simp;omega
  have hba:Below (w.setCell ⟨bl,0,none⟩ (.int .i64 (k-1))).heap.size (w.setCell ⟨bl,0,none⟩ (.int .i64 (k-1))) (((w.setCell ⟨bl,0,none⟩ (.int .i64 (k-1))).alloc (.cells #[.string oIs,.int .i64 a,.slice A l.length c,.string ⟨#[]⟩,n0,n1,n2,n3,n4,n5,n6,n7,n8,n9,n10] 32)).alloc (.cells #[.pointer (some ⟨bl,0,none⟩)] 109)):=bnew.alloc (by simp) _
  have HA1:Hid (Aside bl w (((w.setCell ⟨bl,0,none⟩ (.int .i64 (k-1))).alloc (.cells #[.string oIs,.int .i64 a,.slice A l.length c,.string ⟨#[]⟩,n0,n1,n2,n3,n4,n5,n6,n7,n8,n9,n10] 32)).alloc (.cells #[.pointer (some ⟨bl,0,none⟩)] 109))):=Hd ((Aside.set 0 _).trans (Aside.of_below hba))
  have HH1:Hid (Hold (((w.setCell ⟨bl,0,none⟩ (.int .i64 (k-1))).alloc (.cells #[.string oIs,.int .i64 a,.slice A l.length c,.string ⟨#[]⟩,n0,n1,n2,n3,n4,n5,n6,n7,n8,n9,n10] 32)).alloc (.cells #[.pointer (some ⟨bl,0,none⟩)] 109)) bl 0 (.int .i64 (k-1))):=Hd (hh1.below hba hbl0)
  have e0:wrap64 (k-1)=k-1:=by unfold wrap64;omega
  have HSz:Hid ((((w.setCell ⟨bl,0,none⟩ (.int .i64 (k-1))).alloc (.cells #[.string oIs,.int .i64 a,.slice A l.length c,.string ⟨#[]⟩,n0,n1,n2,n3,n4,n5,n6,n7,n8,n9,n10] 32)).alloc (.cells #[.pointer (some ⟨bl,0,none⟩)] 109)).heap.size=w.heap.size+2):=Hd (by simp)
  have hne:w.heap.size≠bl:=by omega
  have hne1:w.heap.size+1≠bl:=by omega
  obtain ⟨hc0,hf0⟩:=hh
  have hc1:(w.setCell ⟨bl,0,none⟩ (.int .i64 (k-1))).cell? ⟨bl,0,none⟩=some (.int .i64 (k-1)):=hh1.1
  clear hh1 hba hty
  have HCF:=Hd (fun (W:World) (hW:Below (((w.setCell ⟨bl,0,none⟩ (.int .i64 (k-1))).alloc (.cells #[.string oIs,.int .i64 a,.slice A l.length c,.string ⟨#[]⟩,n0,n1,n2,n3,n4,n5,n6,n7,n8,n9,n10] 32)).alloc (.cells #[.pointer (some ⟨bl,0,none⟩)] 109)).heap.size (((w.setCell ⟨bl,0,none⟩ (.int .i64 (k-1))).alloc (.cells #[.string oIs,.int .i64 a,.slice A l.length c,.string ⟨#[]⟩,n0,n1,n2,n3,n4,n5,n6,n7,n8,n9,n10] 32)).alloc (.cells #[.pointer (some ⟨bl,0,none⟩)] 109)) W) (h0:0≤k-1)=>containsE_any l ih A c (k-1) S W bl (w.heap.size+1) (hS.to (Nat.le_trans HA1.out.size hW.size)) (by have:=hW.size;rw[HSz.out]at this;omega) h0 (by omega) hll (PartsS.asideS hp hS (HA1.out.trans (Aside.of_below hW))) (hw.aside hS (HA1.out.trans (Aside.of_below hW))) (hw2.aside hS (HA1.out.trans (Aside.of_below hW))) (HH1.out.below hW (by rw[HSz.out];omega)) (by have:=hW.size;rw[HSz.out]at this;omega) hne1 ((hW.cell (p:=⟨w.heap.size+1,0,none⟩) (by rw[HSz.out];show w.heap.size+1<_;omega)).trans (by simp[go_sem])))
  have HW1:=Hd (fun (W:World) (hW:Aside bl w W)=>hw.aside hS hW)
  have HW2:=Hd (fun (W:World) (hW:Aside bl w W)=>hw2.aside hS hW)
  have hmf:∀(fn:Fn) (first cap:Array Value) (W:World),(Instr.makeFunc fn first cap).run Tryz.prog W=.ok (.func fn first cap) W:=fun _ _ _ _=>rfl
  clear ih hp hw hw2
  unfold termOf eV at *
  unfold CanPost at HCF
  generalize takesV oIs ⟨#[]⟩=tk at *
  rcases ht9 with rfl|⟨g3,g4⟩
  ·go_enter Tryz.func57,Tryz.ntmps57
   go_wp2_with fail
   refine (HTk.out _).mono ?_
   rintro e w2 ⟨rfl,hb2⟩
   have qe:=fun (o:Nat)=>hb2.cell (p:=⟨w.heap.size,o,none⟩) (by rw[HSz.out];show w.heap.size<_;omega)
   have qp:=fun (o:Nat)=>hb2.cell (p:=⟨w.heap.size+1,o,none⟩) (by rw[HSz.out];show w.heap.size+1<_;omega)
   have qh:=(hb2.cell (p:=⟨bl,0,none⟩) (by rw[HSz.out];show bl<_;omega)).trans HH1.out.1
   go_wp2
   go_ret
   exact ⟨ret_bool (by rw[HF.out]),HA1.out.trans (Aside.of_below hb2),by rw[HF.out];exact HH1.out.below hb2 (by rw[HSz.out];omega)⟩
  ·have g5:((l.length:Int)!=tk)=false:=by simp[g4]
   go_enter Tryz.func57,Tryz.ntmps57
   go_wp2_with fail
   refine (HTk.out _).mono ?_
   rintro e w2 ⟨rfl,hb2⟩
   have qe:=fun (o:Nat)=>hb2.cell (p:=⟨w.heap.size,o,none⟩) (by rw[HSz.out];show w.heap.size<_;omega)
   have qp:=fun (o:Nat)=>hb2.cell (p:=⟨w.heap.size+1,o,none⟩) (by rw[HSz.out];show w.heap.size+1<_;omega)
   have qh:=(hb2.cell (p:=⟨bl,0,none⟩) (by rw[HSz.out];show bl<_;omega)).trans HH1.out.1
   go_wp2
   go_ret
   exact ⟨ret_bool (by rw[HF.out]),HA1.out.trans (Aside.of_below hb2),by rw[HF.out];exact HH1.out.below hb2 (by rw[HSz.out];omega)⟩
 have hne0:=neS [] he
 have hne0':nm.toList.isEmpty=false:=by cases h:nm.toList with|nil=>rw[h]at hne0;cases hne0|cons _ _=>rfl
 have hnep:decide (nm≠⟨#[]⟩)=true:=decide_eq_true he
 rw[hnep]at HU
 clear he hnep
 obtain ⟨A,c,y,rfl,hops,ha,hns,hty,hll,hp⟩:=hx
 replace hp:PartsS w S A l:=hp
 have hy:Eleven y:=hty.elevenS
 have HTk:=Hd (fun (W:World)=>takes_any oIs a (.slice A l.length c) nm y hy rfl W)
 have HLit:=Hd (fun (W:World) (hW:Aside bl w W)=>literal_any t y W (RdTS.more (fun b hb=>(hS.to hW.size b hb).1) _ _ (RdTS.keep (fun p hp=>hW.cell (hS _ hp).1 (hS _ hp).2) _ _ hty)))
 obtain ⟨n0,n1,n2,n3,n4,n5,n6,n7,n8,n9,n10,rfl,h1c⟩:=hy
 clear h1c
 have hh1:Hold (w.setCell ⟨bl,0,none⟩ (.int .i64 (k-1))) bl 0 (.int .i64 (k-1)):=hh.set _
 have hbl0:bl<(w.setCell ⟨bl,0,none⟩ (.int .i64 (k-1))).heap.size:=by simp;omega
 have hba:Below (w.setCell ⟨bl,0,none⟩ (.int .i64 (k-1))).heap.size (w.setCell ⟨bl,0,none⟩ (.int .i64 (k-1))) (((w.setCell ⟨bl,0,none⟩ (.int .i64 (k-1))).alloc (.cells #[.string oIs,.int .i64 a,.slice A l.length c,.string nm,n0,n1,n2,n3,n4,n5,n6,n7,n8,n9,n10] 32)).alloc (.cells #[.pointer (some ⟨bl,0,none⟩)] 109)):=bnew.alloc (by simp) _
 have HA1:Hid (Aside bl w (((w.setCell ⟨bl,0,none⟩ (.int .i64 (k-1))).alloc (.cells #[.string oIs,.int .i64 a,.slice A l.length c,.string nm,n0,n1,n2,n3,n4,n5,n6,n7,n8,n9,n10] 32)).alloc (.cells #[.pointer (some ⟨bl,0,none⟩)] 109))):=Hd ((Aside.set 0 _).trans (Aside.of_below hba))
 have HH1:Hid (Hold (((w.setCell ⟨bl,0,none⟩ (.int .i64 (k-1))).alloc (.cells #[.string oIs,.int .i64 a,.slice A l.length c,.string nm,n0,n1,n2,n3,n4,n5,n6,n7,n8,n9,n10] 32)).alloc (.cells #[.pointer (some ⟨bl,0,none⟩)] 109)) bl 0 (.int .i64 (k-1))):=Hd (hh1.below hba hbl0)
 have e0:wrap64 (k-1)=k-1:=by unfold wrap64;omega
 have HSz:Hid ((((w.setCell ⟨bl,0,none⟩ (.int .i64 (k-1))).alloc (.cells #[.string oIs,.int .i64 a,.slice A l.length c,.string nm,n0,n1,n2,n3,n4,n5,n6,n7,n8,n9,n10] 32)).alloc (.cells #[.pointer (some ⟨bl,0,none⟩)] 109)).heap.size=w.heap.size+2):=Hd (by simp)
 have hne:w.heap.size≠bl:=by omega
 have hne1:w.heap.size+1≠bl:=by omega
 obtain ⟨hc0,hf0⟩:=hh
 have hc1:(w.setCell ⟨bl,0,none⟩ (.int .i64 (k-1))).cell? ⟨bl,0,none⟩=some (.int .i64 (k-1)):=hh1.1
 clear hh1 hba hty
 have HCF:=Hd (fun (W:World) (hW:Below (((w.setCell ⟨bl,0,none⟩ (.int .i64 (k-1))).alloc (.cells #[.string oIs,.int .i64 a,.slice A l.length c,.string nm,n0,n1,n2,n3,n4,n5,n6,n7,n8,n9,n10] 32)).alloc (.cells #[.pointer (some ⟨bl,0,none⟩)] 109)).heap.size (((w.setCell ⟨bl,0,none⟩ (.int .i64 (k-1))).alloc (.cells #[.string oIs,.int .i64 a,.slice A l.length c,.string nm,n0,n1,n2,n3,n4,n5,n6,n7,n8,n9,n10] 32)).alloc (.cells #[.pointer (some ⟨bl,0,none⟩)] 109)) W) (h0:0≤k-1)=>containsE_any l ih A c (k-1) S W bl (w.heap.size+1) (hS.to (Nat.le_trans HA1.out.size hW.size)) (by have:=hW.size;rw[HSz.out]at this;omega) h0 (by omega) hll (PartsS.asideS hp hS (HA1.out.trans (Aside.of_below hW))) (hw.aside hS (HA1.out.trans (Aside.of_below hW))) (hw2.aside hS (HA1.out.trans (Aside.of_below hW))) (HH1.out.below hW (by rw[HSz.out];omega)) (by have:=hW.size;rw[HSz.out]at this;omega) hne1 ((hW.cell (p:=⟨w.heap.size+1,0,none⟩) (by rw[HSz.out];show w.heap.size+1<_;omega)).trans (by simp[go_sem])))
 have HW1:=Hd (fun (W:World) (hW:Aside bl w W)=>hw.aside hS hW)
 have HW2:=Hd (fun (W:World) (hW:Aside bl w W)=>hw2.aside hS hW)
 have hmf:∀(fn:Fn) (first cap:Array Value) (W:World),(Instr.makeFunc fn first cap).run Tryz.prog W=.ok (.func fn first cap) W:=fun _ _ _ _=>rfl
 clear ih hp hw hw2
 unfold termOf eV at *
 unfold CanPost at HCF
 by_cases hi:0≤idxW kindWords nm 0
 ·have HF:Hid (canV (.mk oIs a l nm t) k=canAll (canVL l) (k-1)):=Hd (by rw[HU.out,decide_eq_true hi];rfl)
  generalize takesV oIs nm=tk at *
  rcases ht9 with rfl|⟨g3,g4⟩
  ·go_enter Tryz.func57,Tryz.ntmps57
   go_wp2_with fail
   refine (HTk.out _).mono ?_
   rintro e w2 ⟨rfl,hb2⟩
   have qe:=fun (o:Nat)=>hb2.cell (p:=⟨w.heap.size,o,none⟩) (by rw[HSz.out];show w.heap.size<_;omega)
   have qp:=fun (o:Nat)=>hb2.cell (p:=⟨w.heap.size+1,o,none⟩) (by rw[HSz.out];show w.heap.size+1<_;omega)
   have qh:=(hb2.cell (p:=⟨bl,0,none⟩) (by rw[HSz.out];show bl<_;omega)).trans HH1.out.1
   obtain ⟨hg2,bk,ok,ck,hSk,g0,gs⟩:=HW1.out _ (HA1.out.trans (Aside.of_below hb2))
   have HCo:=Hd (wcontains_any kindWords bk ok ck nm _ (by decide) gs)
   have hlen:kindWords.length=11:=rfl
   rw[hlen]at g0 HCo
   clear gs
   rw[decide_eq_true hi]at HCo
   go_wp2_with fail
   refine HCo.out.mono ?_
   rintro e w4 ⟨rfl,rfl⟩
   go_wp2_with fail
   refine (HCF.out _ hb2 h0).mono ?_
   rintro e w9 ⟨rfl,hA9,hH9⟩
   go_wp2
   go_ret
   exact ⟨ret_bool (by rw[HF.out] <;> simp),HA1.out.trans ((Aside.of_below hb2).trans hA9),by rw[HF.out];exact hH9⟩
  ·have g5:((l.length:Int)!=tk)=false:=by simp[g4]
   go_enter Tryz.func57,Tryz.ntmps57
   go_wp2_with fail
   refine (HTk.out _).mono ?_
   rintro e w2 ⟨rfl,hb2⟩
   have qe:=fun (o:Nat)=>hb2.cell (p:=⟨w.heap.size,o,none⟩) (by rw[HSz.out];show w.heap.size<_;omega)
   have qp:=fun (o:Nat)=>hb2.cell (p:=⟨w.heap.size+1,o,none⟩) (by rw[HSz.out];show w.heap.size+1<_;omega)
   have qh:=(hb2.cell (p:=⟨bl,0,none⟩) (by rw[HSz.out];show bl<_;omega)).trans HH1.out.1
   obtain ⟨hg2,bk,ok,ck,hSk,g0,gs⟩:=HW1.out _ (HA1.out.trans (Aside.of_below hb2))
   have HCo:=Hd (wcontains_any kindWords bk ok ck nm _ (by decide) gs)
   have hlen:kindWords.length=11:=rfl
   rw[hlen]at g0 HCo
   clear gs
   rw[decide_eq_true hi]at HCo
   go_wp2_with fail
   refine HCo.out.mono ?_
   rintro e w4 ⟨rfl,rfl⟩
   go_wp2_with fail
   refine (HCF.out _ hb2 h0).mono ?_
   rintro e w9 ⟨rfl,hA9,hH9⟩
   go_wp2
   go_ret
   exact ⟨ret_bool (by rw[HF.out] <;> simp),HA1.out.trans ((Aside.of_below hb2).trans hA9),by rw[HF.out];exact hH9⟩
 ·have HF:Hid (canV (.mk oIs a l nm t) k=(false,k-1)):=Hd (by rw[HU.out,decide_eq_false hi];rfl)
  have hdi:=Hd (decide_eq_false hi)
  generalize takesV oIs nm=tk at *
  rcases ht9 with rfl|⟨g3,g4⟩
  ·go_enter Tryz.func57,Tryz.ntmps57
   go_wp2_with fail
   refine (HTk.out _).mono ?_
   rintro e w2 ⟨rfl,hb2⟩
   have qe:=fun (o:Nat)=>hb2.cell (p:=⟨w.heap.size,o,none⟩) (by rw[HSz.out];show w.heap.size<_;omega)
   have qp:=fun (o:Nat)=>hb2.cell (p:=⟨w.heap.size+1,o,none⟩) (by rw[HSz.out];show w.heap.size+1<_;omega)
   have qh:=(hb2.cell (p:=⟨bl,0,none⟩) (by rw[HSz.out];show bl<_;omega)).trans HH1.out.1
   obtain ⟨hg2,bk,ok,ck,hSk,g0,gs⟩:=HW1.out _ (HA1.out.trans (Aside.of_below hb2))
   have HCo:=Hd (wcontains_any kindWords bk ok ck nm _ (by decide) gs)
   have hlen:kindWords.length=11:=rfl
   rw[hlen]at g0 HCo
   clear gs
   rw[hdi.out]at HCo
   go_wp2_with fail
   refine HCo.out.mono ?_
   rintro e w4 ⟨rfl,rfl⟩
   go_wp2
   go_ret
   exact ⟨ret_bool (by rw[HF.out]),HA1.out.trans (Aside.of_below hb2),by rw[HF.out];exact HH1.out.below hb2 (by rw[HSz.out];omega)⟩
  ·have g5:((l.length:Int)!=tk)=false:=by simp[g4]
   go_enter Tryz.func57,Tryz.ntmps57
   go_wp2_with fail
   refine (HTk.out _).mono ?_
   rintro e w2 ⟨rfl,hb2⟩
   have qe:=fun (o:Nat)=>hb2.cell (p:=⟨w.heap.size,o,none⟩) (by rw[HSz.out];show w.heap.size<_;omega)
   have qp:=fun (o:Nat)=>hb2.cell (p:=⟨w.heap.size+1,o,none⟩) (by rw[HSz.out];show w.heap.size+1<_;omega)
   have qh:=(hb2.cell (p:=⟨bl,0,none⟩) (by rw[HSz.out];show bl<_;omega)).trans HH1.out.1
   obtain ⟨hg2,bk,ok,ck,hSk,g0,gs⟩:=HW1.out _ (HA1.out.trans (Aside.of_below hb2))
   have HCo:=Hd (wcontains_any kindWords bk ok ck nm _ (by decide) gs)
   have hlen:kindWords.length=11:=rfl
   rw[hlen]at g0 HCo
   clear gs
   rw[hdi.out]at HCo
   go_wp2_with fail
   refine HCo.out.mono ?_
   rintro e w4 ⟨rfl,rfl⟩
   go_wp2
   go_ret
   exact ⟨ret_bool (by rw[HF.out]),HA1.out.trans (Aside.of_below hb2),by rw[HF.out];exact HH1.out.below hb2 (by rw[HSz.out];omega)⟩
theorem can_any (e:Ex):CanC e:=by
 induction e using Ex.ind with
 | h op a l nm t ih =>
  intro x k S w bl hS hbl hk hk2 hx hw hw2 hh
  by_cases hbad:k-1<0∨takesV op nm<0∨(takesV op nm≠9∧(l.length:Int)≠takesV op nm)
  ·exact can_bad op a l nm t ih x k S w bl hS hbl hk hk2 hx hw hw2 hh hbad
  have h0:0≤k-1:=by omega
  have ht0:¬takesV op nm<0:=by omega
  have ht9:takesV op nm=9∨(takesV op nm≠9∧(l.length:Int)=takesV op nm):=by omega
  clear hbad
  by_cases hV:op=oValue
  ·subst hV;exact can_value a l nm t ih x k S w bl hS hbl hk hk2 hx hw hw2 hh h0 ht0 ht9
  by_cases hF:op=oField
  ·subst hF;exact can_field a l nm t ih x k S w bl hS hbl hk hk2 hx hw hw2 hh h0 ht0 ht9
  by_cases hD:op=oDot
  ·subst hD;exact can_dot a l nm t ih x k S w bl hS hbl hk hk2 hx hw hw2 hh h0 ht0 ht9
  by_cases hI:op=oIs
  ·subst hI;exact can_is a l nm t ih x k S w bl hS hbl hk hk2 hx hw hw2 hh h0 ht0 ht9
  exact can_other op a l nm t ih x k S w bl hS hbl hk hk2 hx hw hw2 hh h0 ht0 ht9 hV hF hD hI
noncomputable def validV (e:Ex):Bool:=(canV e 16384).1
theorem valid_any (e:Ex) (x:List Value) (S:Nat→Prop) (w:World) (hS:∀b,S b→b<w.heap.size) (hx:RdES w S e x) (hw:Words w S 1 kindWords) (hw2:Words w S 2 wordList):Calls Tryz.prog 42 #[termOf x] w (BoolPost (validV e) w):=by
 have HC:=Hd (fun (W:World) (bl:Nat) (hW:Below w.heap.size w W) (hlo:w.heap.size≤bl) (hbl:bl<W.heap.size) (hH:Hold W bl 0 (.int .i64 16384))=>can_any e x 16384 S W bl (fun b hb=>⟨Nat.lt_of_lt_of_le (hS b hb) hW.size,by have:=hS b hb;omega⟩) hbl (by decide) (by decide) (RdES.keep (fun p hp=>hW.cell (hS _ hp)) _ _ hx) (by
  obtain ⟨hg,b,off,c,hb,h1,h2⟩:=hw
  exact ⟨hg,b,off,c,hb,(hW.cell (p:=⟨1,0,none⟩) (hS 1 hg)).trans h1,fun i s hi=>(hW.cell (p:=⟨b,off+i,none⟩) (hS b hb)).trans (h2 i s hi)⟩) (by
  obtain ⟨hg,b,off,c,hb,h1,h2⟩:=hw2
  exact ⟨hg,b,off,c,hb,(hW.cell (p:=⟨2,0,none⟩) (hS 2 hg)).trans h1,fun i s hi=>(hW.cell (p:=⟨b,off+i,none⟩) (hS b hb)).trans (h2 i s hi)⟩) hH)
 unfold CanPost at HC
 have HF:Hid (validV e=(canV e 16384).1):=Hd rfl
 generalize canV e 16384=r at *
 obtain ⟨op',a',l',nm',t'⟩:=e
 obtain ⟨A',c',y',rfl,-,-,-,hty,-⟩:=hx
 obtain ⟨m0,m1,m2,m3,m4,m5,m6,m7,m8,m9,m10,rfl,h1c⟩:=hty.elevenS
 clear hty h1c hw hw2
 have hB:Below w.heap.size w ((w.alloc (.cells #[.string op',.int .i64 a',.slice A' l'.length c',.string nm',m0,m1,m2,m3,m4,m5,m6,m7,m8,m9,m10] 32)).alloc (.cells #[.int .i64 16384] 3)):=bnew.alloc (by simp) _
 have HH:Hid (Hold ((w.alloc (.cells #[.string op',.int .i64 a',.slice A' l'.length c',.string nm',m0,m1,m2,m3,m4,m5,m6,m7,m8,m9,m10] 32)).alloc (.cells #[.int .i64 16384] 3)) (w.heap.size+1) 0 (.int .i64 16384)):=Hd ⟨by simp[go_sem],by simp[go_sem]⟩
 have HB:=Hd hB
 clear hB
 unfold termOf at *
 go_enter Tryz.func42,Tryz.ntmps42
 go_wp2_with fail
 refine (HC.out _ (w.heap.size+1) HB.out (by omega) (by simp) HH.out).mono ?_
 rintro e w1 ⟨rfl,hA,hH⟩
 go_wp2
 go_ret
 exact ⟨ret_bool HF.out.symm,HB.out.trans ⟨hA.os,hA.tape,hA.output,hA.size,fun i hi=>hA.block i (by simp;omega) (by omega)⟩⟩
end Go.Proofs.YtbemeapjeipjlaaGreatDoor
