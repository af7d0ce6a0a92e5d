/- Walks: query.can of any expression. -/
import Derived.Test.YtbemeapjeipjlaaGreatDoorQN28
set_option linter.unusedVariables false
set_option linter.unusedSimpArgs false
namespace Go.Proofs.YtbemeapjeipjlaaGreatDoor
open Go Go.RowKit
set_option maxRecDepth 100000
set_option maxHeartbeats 8000000
attribute [local go_sem] ta_no_bool ta_yes_bool ta_nil_bool ta_no_int64 ta_yes_int64 ta_nil_int64 ta_no_flt ta_yes_flt ta_nil_flt ta_no_str ta_yes_str ta_nil_str ta_no_byt ta_yes_byt ta_nil_byt ta_no_ref ta_yes_ref ta_nil_ref ta_no_lst ta_yes_lst ta_nil_lst ta_no_dct ta_yes_dct ta_nil_dct ta_no_rec ta_yes_rec ta_nil_rec
theorem can_bad (op:ByteArray) (a:Int) (l:List Ex) (nm:ByteArray) (t:Tm) (ih:∀x∈l,CanC x) (x:List Value) (k:Int) (S:Nat→Prop) (w:World) (bl:Nat) (hS:Seen S w bl) (hbl:bl<w.heap.size) (hk:0≤k) (hk2:k≤16384) (hx:RdES w S (.mk op a l nm t) x) (hw:Words w S 1 kindWords) (hw2:Words w S 2 wordList) (hh:Hold w bl 0 (.int .i64 k)) (hbad:k-1<0∨takesV op nm<0∨(takesV op nm≠9∧(l.length:Int)≠takesV op nm)) :
  Calls Tryz.prog 57 #[termOf x,.pointer (some ⟨bl,0,none⟩)] w (CanPost bl (canV (.mk op a l nm t) k) w):=by
 have HF:Hid (canV (.mk op a l nm t) k=(false,k-1)):=Hd (by rw[canV];unfold canS;rw[if_pos (by rw[show (canVL l).length=l.length by rw[canVL_eq];simp];exact hbad)])
 obtain ⟨A,c,y,rfl,hops,ha,hns,hty,hll,hp⟩:=hx
 replace hp:PartsS w S A l:=hp
 have hy:Eleven y:=hty.elevenS
 have HTk:=Hd (fun (W:World)=>takes_any op a (.slice A l.length c) nm y hy rfl W)
 have HLit:=Hd (fun (W:World) (hW:Aside bl w W)=>literal_any t y W (RdTS.more (fun b hb=>(hS.to hW.size b hb).1) _ _ (RdTS.keep (fun p hp=>hW.cell (hS _ hp).1 (hS _ hp).2) _ _ hty)))
 obtain ⟨n0,n1,n2,n3,n4,n5,n6,n7,n8,n9,n10,rfl,h1c⟩:=hy
 clear h1c
 have hh1:Hold (w.setCell ⟨bl,0,none⟩ (.int .i64 (k-1))) bl 0 (.int .i64 (k-1)):=hh.set _
 have hbl0:bl<(w.setCell ⟨bl,0,none⟩ (.int .i64 (k-1))).heap.size:=by simp;omega
 have hba:Below (w.setCell ⟨bl,0,none⟩ (.int .i64 (k-1))).heap.size (w.setCell ⟨bl,0,none⟩ (.int .i64 (k-1))) (((w.setCell ⟨bl,0,none⟩ (.int .i64 (k-1))).alloc (.cells #[.string op,.int .i64 a,.slice A l.length c,.string nm,n0,n1,n2,n3,n4,n5,n6,n7,n8,n9,n10] 32)).alloc (.cells #[.pointer (some ⟨bl,0,none⟩)] 109)):=bnew.alloc (by simp) _
 have HA1:Hid (Aside bl w (((w.setCell ⟨bl,0,none⟩ (.int .i64 (k-1))).alloc (.cells #[.string op,.int .i64 a,.slice A l.length c,.string nm,n0,n1,n2,n3,n4,n5,n6,n7,n8,n9,n10] 32)).alloc (.cells #[.pointer (some ⟨bl,0,none⟩)] 109))):=Hd ((Aside.set 0 _).trans (Aside.of_below hba))
 have HH1:Hid (Hold (((w.setCell ⟨bl,0,none⟩ (.int .i64 (k-1))).alloc (.cells #[.string op,.int .i64 a,.slice A l.length c,.string nm,n0,n1,n2,n3,n4,n5,n6,n7,n8,n9,n10] 32)).alloc (.cells #[.pointer (some ⟨bl,0,none⟩)] 109)) bl 0 (.int .i64 (k-1))):=Hd (hh1.below hba hbl0)
 have e0:wrap64 (k-1)=k-1:=by unfold wrap64;omega
 have HSz:Hid ((((w.setCell ⟨bl,0,none⟩ (.int .i64 (k-1))).alloc (.cells #[.string op,.int .i64 a,.slice A l.length c,.string nm,n0,n1,n2,n3,n4,n5,n6,n7,n8,n9,n10] 32)).alloc (.cells #[.pointer (some ⟨bl,0,none⟩)] 109)).heap.size=w.heap.size+2):=Hd (by simp)
 have hne:w.heap.size≠bl:=by omega
 have hne1:w.heap.size+1≠bl:=by omega
 obtain ⟨hc0,hf0⟩:=hh
 have hc1:(w.setCell ⟨bl,0,none⟩ (.int .i64 (k-1))).cell? ⟨bl,0,none⟩=some (.int .i64 (k-1)):=hh1.1
 clear hh1 hba hty
 have HCF:=Hd (fun (W:World) (hW:Below (((w.setCell ⟨bl,0,none⟩ (.int .i64 (k-1))).alloc (.cells #[.string op,.int .i64 a,.slice A l.length c,.string nm,n0,n1,n2,n3,n4,n5,n6,n7,n8,n9,n10] 32)).alloc (.cells #[.pointer (some ⟨bl,0,none⟩)] 109)).heap.size (((w.setCell ⟨bl,0,none⟩ (.int .i64 (k-1))).alloc (.cells #[.string op,.int .i64 a,.slice A l.length c,.string nm,n0,n1,n2,n3,n4,n5,n6,n7,n8,n9,n10] 32)).alloc (.cells #[.pointer (some ⟨bl,0,none⟩)] 109)) W) (h0:0≤k-1)=>containsE_any l ih A c (k-1) S W bl (w.heap.size+1) (hS.to (Nat.le_trans HA1.out.size hW.size)) (by have:=hW.size;rw[HSz.out]at this;omega) h0 (by omega) hll (PartsS.asideS hp hS (HA1.out.trans (Aside.of_below hW))) (hw.aside hS (HA1.out.trans (Aside.of_below hW))) (hw2.aside hS (HA1.out.trans (Aside.of_below hW))) (HH1.out.below hW (by rw[HSz.out];omega)) (by have:=hW.size;rw[HSz.out]at this;omega) hne1 ((hW.cell (p:=⟨w.heap.size+1,0,none⟩) (by rw[HSz.out];show w.heap.size+1<_;omega)).trans (by simp[go_sem])))
 have HW1:=Hd (fun (W:World) (hW:Aside bl w W)=>hw.aside hS hW)
 have HW2:=Hd (fun (W:World) (hW:Aside bl w W)=>hw2.aside hS hW)
 have hmf:∀(fn:Fn) (first cap:Array Value) (W:World),(Instr.makeFunc fn first cap).run Tryz.prog W=.ok (.func fn first cap) W:=fun _ _ _ _=>rfl
 clear ih hp hw hw2
 unfold termOf eV at *
 unfold CanPost at HCF
 generalize takesV op nm=tk at *
 by_cases g1:k-1<0
 ·clear hbad
  go_enter Tryz.func57,Tryz.ntmps57
  go_wp2_with fail
  refine (HTk.out _).mono ?_
  rintro e w2 ⟨rfl,hb2⟩
  have qe:=fun (o:Nat)=>hb2.cell (p:=⟨w.heap.size,o,none⟩) (by rw[HSz.out];show w.heap.size<_;omega)
  have qp:=fun (o:Nat)=>hb2.cell (p:=⟨w.heap.size+1,o,none⟩) (by rw[HSz.out];show w.heap.size+1<_;omega)
  have qh:=(hb2.cell (p:=⟨bl,0,none⟩) (by rw[HSz.out];show bl<_;omega)).trans HH1.out.1
  go_wp2
  go_ret
  exact ⟨ret_bool (by rw[HF.out]),HA1.out.trans (Aside.of_below hb2),by rw[HF.out];exact HH1.out.below hb2 (by rw[HSz.out];omega)⟩
 by_cases g2:tk<0
 ·clear hbad
  go_enter Tryz.func57,Tryz.ntmps57
  go_wp2_with fail
  refine (HTk.out _).mono ?_
  rintro e w2 ⟨rfl,hb2⟩
  have qe:=fun (o:Nat)=>hb2.cell (p:=⟨w.heap.size,o,none⟩) (by rw[HSz.out];show w.heap.size<_;omega)
  have qp:=fun (o:Nat)=>hb2.cell (p:=⟨w.heap.size+1,o,none⟩) (by rw[HSz.out];show w.heap.size+1<_;omega)
  have qh:=(hb2.cell (p:=⟨bl,0,none⟩) (by rw[HSz.out];show bl<_;omega)).trans HH1.out.1
  go_wp2
  go_ret
  exact ⟨ret_bool (by rw[HF.out]),HA1.out.trans (Aside.of_below hb2),by rw[HF.out];exact HH1.out.below hb2 (by rw[HSz.out];omega)⟩
 have g3:tk≠9:=by omega
 have g4:(l.length:Int)≠tk:=by omega
 have g3':(tk != 9)=true:=by simp[g3]
 have g4':((l.length:Int)!=tk)=true:=by simp[g4]
 clear hbad g3 g4
 go_enter Tryz.func57,Tryz.ntmps57
 go_wp2_with fail
 refine (HTk.out _).mono ?_
 rintro e w2 ⟨rfl,hb2⟩
 have qe:=fun (o:Nat)=>hb2.cell (p:=⟨w.heap.size,o,none⟩) (by rw[HSz.out];show w.heap.size<_;omega)
 have qp:=fun (o:Nat)=>hb2.cell (p:=⟨w.heap.size+1,o,none⟩) (by rw[HSz.out];show w.heap.size+1<_;omega)
 have qh:=(hb2.cell (p:=⟨bl,0,none⟩) (by rw[HSz.out];show bl<_;omega)).trans HH1.out.1
 go_wp2
 go_ret
 exact ⟨ret_bool (by rw[HF.out]),HA1.out.trans (Aside.of_below hb2),by rw[HF.out];exact HH1.out.below hb2 (by rw[HSz.out];omega)⟩
theorem can_value (a:Int) (l:List Ex) (nm:ByteArray) (t:Tm) (ih:∀x∈l,CanC x) (x:List Value) (k:Int) (S:Nat→Prop) (w:World) (bl:Nat) (hS:Seen S w bl) (hbl:bl<w.heap.size) (hk:0≤k) (hk2:k≤16384) (hx:RdES w S (.mk oValue a l nm t) x) (hw:Words w S 1 kindWords) (hw2:Words w S 2 wordList) (hh:Hold w bl 0 (.int .i64 k)) (h0:0≤k-1) (ht0:¬takesV oValue nm<0) (ht9:takesV oValue nm=9∨(takesV oValue nm≠9∧(l.length:Int)=takesV oValue nm)) :
  Calls Tryz.prog 57 #[termOf x,.pointer (some ⟨bl,0,none⟩)] w (CanPost bl (canV (.mk oValue a l nm t) k) w):=by
 have hcond:¬(k-1<0∨takesV oValue nm<0∨(takesV oValue nm≠9∧((canVL l).length:Int)≠takesV oValue nm)):=by rw[show (canVL l).length=l.length by rw[canVL_eq];simp];omega
 have HU:Hid (canV (.mk oValue a l nm t) k=if partOK oValue nm t=true then canAll (canVL l) (k-1) else (false,k-1)):=Hd (by rw[canV];unfold canS;rw[if_neg hcond])
 clear hcond
 have hpo:partOK oValue nm t=literalB t:=by unfold partOK;rw[if_pos rfl]
 rw[hpo]at HU
 obtain ⟨A,c,y,rfl,hops,ha,hns,hty,hll,hp⟩:=hx
 replace hp:PartsS w S A l:=hp
 have hy:Eleven y:=hty.elevenS
 have HTk:=Hd (fun (W:World)=>takes_any oValue a (.slice A l.length c) nm y hy rfl W)
 have HLit:=Hd (fun (W:World) (hW:Aside bl w W)=>literal_any t y W (RdTS.more (fun b hb=>(hS.to hW.size b hb).1) _ _ (RdTS.keep (fun p hp=>hW.cell (hS _ hp).1 (hS _ hp).2) _ _ hty)))
 obtain ⟨n0,n1,n2,n3,n4,n5,n6,n7,n8,n9,n10,rfl,h1c⟩:=hy
 clear h1c
 have hh1:Hold (w.setCell ⟨bl,0,none⟩ (.int .i64 (k-1))) bl 0 (.int .i64 (k-1)):=hh.set _
 have hbl0:bl<(w.setCell ⟨bl,0,none⟩ (.int .i64 (k-1))).heap.size:=by simp;omega
 have hba:Below (w.setCell ⟨bl,0,none⟩ (.int .i64 (k-1))).heap.size (w.setCell ⟨bl,0,none⟩ (.int .i64 (k-1))) (((w.setCell ⟨bl,0,none⟩ (.int .i64 (k-1))).alloc (.cells #[.string oValue,.int .i64 a,.slice A l.length c,.string nm,n0,n1,n2,n3,n4,n5,n6,n7,n8,n9,n10] 32)).alloc (.cells #[.pointer (some ⟨bl,0,none⟩)] 109)):=bnew.alloc (by simp) _
 have HA1:Hid (Aside bl w (((w.setCell ⟨bl,0,none⟩ (.int .i64 (k-1))).alloc (.cells #[.string oValue,.int .i64 a,.slice A l.length c,.string nm,n0,n1,n2,n3,n4,n5,n6,n7,n8,n9,n10] 32)).alloc (.cells #[.pointer (some ⟨bl,0,none⟩)] 109))):=Hd ((Aside.set 0 _).trans (Aside.of_below hba))
 have HH1:Hid (Hold (((w.setCell ⟨bl,0,none⟩ (.int .i64 (k-1))).alloc (.cells #[.string oValue,.int .i64 a,.slice A l.length c,.string nm,n0,n1,n2,n3,n4,n5,n6,n7,n8,n9,n10] 32)).alloc (.cells #[.pointer (some ⟨bl,0,none⟩)] 109)) bl 0 (.int .i64 (k-1))):=Hd (hh1.below hba hbl0)
 have e0:wrap64 (k-1)=k-1:=by unfold wrap64;omega
 have HSz:Hid ((((w.setCell ⟨bl,0,none⟩ (.int .i64 (k-1))).alloc (.cells #[.string oValue,.int .i64 a,.slice A l.length c,.string nm,n0,n1,n2,n3,n4,n5,n6,n7,n8,n9,n10] 32)).alloc (.cells #[.pointer (some ⟨bl,0,none⟩)] 109)).heap.size=w.heap.size+2):=Hd (by simp)
 have hne:w.heap.size≠bl:=by omega
 have hne1:w.heap.size+1≠bl:=by omega
 obtain ⟨hc0,hf0⟩:=hh
 have hc1:(w.setCell ⟨bl,0,none⟩ (.int .i64 (k-1))).cell? ⟨bl,0,none⟩=some (.int .i64 (k-1)):=hh1.1
 clear hh1 hba hty
 have HCF:=Hd (fun (W:World) (hW:Below (((w.setCell ⟨bl,0,none⟩ (.int .i64 (k-1))).alloc (.cells #[.string oValue,.int .i64 a,.slice A l.length c,.string nm,n0,n1,n2,n3,n4,n5,n6,n7,n8,n9,n10] 32)).alloc (.cells #[.pointer (some ⟨bl,0,none⟩)] 109)).heap.size (((w.setCell ⟨bl,0,none⟩ (.int .i64 (k-1))).alloc (.cells #[.string oValue,.int .i64 a,.slice A l.length c,.string nm,n0,n1,n2,n3,n4,n5,n6,n7,n8,n9,n10] 32)).alloc (.cells #[.pointer (some ⟨bl,0,none⟩)] 109)) W) (h0:0≤k-1)=>containsE_any l ih A c (k-1) S W bl (w.heap.size+1) (hS.to (Nat.le_trans HA1.out.size hW.size)) (by have:=hW.size;rw[HSz.out]at this;omega) h0 (by omega) hll (PartsS.asideS hp hS (HA1.out.trans (Aside.of_below hW))) (hw.aside hS (HA1.out.trans (Aside.of_below hW))) (hw2.aside hS (HA1.out.trans (Aside.of_below hW))) (HH1.out.below hW (by rw[HSz.out];omega)) (by have:=hW.size;rw[HSz.out]at this;omega) hne1 ((hW.cell (p:=⟨w.heap.size+1,0,none⟩) (by rw[HSz.out];show w.heap.size+1<_;omega)).trans (by simp[go_sem])))
 have HW1:=Hd (fun (W:World) (hW:Aside bl w W)=>hw.aside hS hW)
 have HW2:=Hd (fun (W:World) (hW:Aside bl w W)=>hw2.aside hS hW)
 have hmf:∀(fn:Fn) (first cap:Array Value) (W:World),(Instr.makeFunc fn first cap).run Tryz.prog W=.ok (.func fn first cap) W:=fun _ _ _ _=>rfl
 clear ih hp hw hw2
 unfold termOf eV at *
 unfold CanPost at HCF
 unfold BoolPost at HLit
 cases hpk:literalB t with
 | true =>
  rw[hpk]at HLit
  have HF:Hid (canV (.mk oValue a l nm t) k=canAll (canVL l) (k-1)):=Hd (by rw[HU.out,if_pos hpk])
  generalize takesV oValue nm=tk at *
  rcases ht9 with rfl|⟨g3,g4⟩
  ·go_enter Tryz.func57,Tryz.ntmps57
   go_wp2_with fail
   refine (HTk.out _).mono ?_
   rintro e w2 ⟨rfl,hb2⟩
   have qe:=fun (o:Nat)=>hb2.cell (p:=⟨w.heap.size,o,none⟩) (by rw[HSz.out];show w.heap.size<_;omega)
   have qp:=fun (o:Nat)=>hb2.cell (p:=⟨w.heap.size+1,o,none⟩) (by rw[HSz.out];show w.heap.size+1<_;omega)
   have qh:=(hb2.cell (p:=⟨bl,0,none⟩) (by rw[HSz.out];show bl<_;omega)).trans HH1.out.1
   go_wp2_with fail
   refine (HLit.out _ (HA1.out.trans (Aside.of_below hb2))).mono ?_
   rintro e w3 ⟨rfl,hb3⟩
   have hbb:=below_then hb2 (Nat.le_refl _) hb3
   have qe3:=fun (o:Nat)=>(hbb).cell (p:=⟨w.heap.size,o,none⟩) (by rw[HSz.out];show w.heap.size<_;omega)
   have qp3:=fun (o:Nat)=>(hbb).cell (p:=⟨w.heap.size+1,o,none⟩) (by rw[HSz.out];show w.heap.size+1<_;omega)
   go_wp2_with fail
   refine (HCF.out _ hbb h0).mono ?_
   rintro e w9 ⟨rfl,hA9,hH9⟩
   go_wp2
   go_ret
   exact ⟨ret_bool (by rw[HF.out] <;> simp),HA1.out.trans ((Aside.of_below hbb).trans hA9),by rw[HF.out];exact hH9⟩
  ·have g5:((l.length:Int)!=tk)=false:=by simp[g4]
   go_enter Tryz.func57,Tryz.ntmps57
   go_wp2_with fail
   refine (HTk.out _).mono ?_
   rintro e w2 ⟨rfl,hb2⟩
   have qe:=fun (o:Nat)=>hb2.cell (p:=⟨w.heap.size,o,none⟩) (by rw[HSz.out];show w.heap.size<_;omega)
   have qp:=fun (o:Nat)=>hb2.cell (p:=⟨w.heap.size+1,o,none⟩) (by rw[HSz.out];show w.heap.size+1<_;omega)
   have qh:=(hb2.cell (p:=⟨bl,0,none⟩) (by rw[HSz.out];show bl<_;omega)).trans HH1.out.1
   go_wp2_with fail
   refine (HLit.out _ (HA1.out.trans (Aside.of_below hb2))).mono ?_
   rintro e w3 ⟨rfl,hb3⟩
   have hbb:=below_then hb2 (Nat.le_refl _) hb3
   have qe3:=fun (o:Nat)=>(hbb).cell (p:=⟨w.heap.size,o,none⟩) (by rw[HSz.out];show w.heap.size<_;omega)
   have qp3:=fun (o:Nat)=>(hbb).cell (p:=⟨w.heap.size+1,o,none⟩) (by rw[HSz.out];show w.heap.size+1<_;omega)
   go_wp2_with fail
   refine (HCF.out _ hbb h0).mono ?_
   rintro e w9 ⟨rfl,hA9,hH9⟩
   go_wp2
   go_ret
   exact ⟨ret_bool (by rw[HF.out] <;> simp),HA1.out.trans ((Aside.of_below hbb).trans hA9),by rw[HF.out];exact hH9⟩
 | false =>
  rw[hpk]at HLit
  have HF:Hid (canV (.mk oValue a l nm t) k=(false,k-1)):=Hd (by rw[HU.out,if_neg (by rw[hpk];simp)])
  generalize takesV oValue nm=tk at *
  rcases ht9 with rfl|⟨g3,g4⟩
  ·go_enter Tryz.func57,Tryz.ntmps57
   go_wp2_with fail
   refine (HTk.out _).mono ?_
   rintro e w2 ⟨rfl,hb2⟩
   have qe:=fun (o:Nat)=>hb2.cell (p:=⟨w.heap.size,o,none⟩) (by rw[HSz.out];show w.heap.size<_;omega)
   have qp:=fun (o:Nat)=>hb2.cell (p:=⟨w.heap.size+1,o,none⟩) (by rw[HSz.out];show w.heap.size+1<_;omega)
   have qh:=(hb2.cell (p:=⟨bl,0,none⟩) (by rw[HSz.out];show bl<_;omega)).trans HH1.out.1
   go_wp2_with fail
   refine (HLit.out _ (HA1.out.trans (Aside.of_below hb2))).mono ?_
   rintro e w3 ⟨rfl,hb3⟩
   have hbb:=below_then hb2 (Nat.le_refl _) hb3
   have qe3:=fun (o:Nat)=>(hbb).cell (p:=⟨w.heap.size,o,none⟩) (by rw[HSz.out];show w.heap.size<_;omega)
   have qp3:=fun (o:Nat)=>(hbb).cell (p:=⟨w.heap.size+1,o,none⟩) (by rw[HSz.out];show w.heap.size+1<_;omega)
   go_wp2
   go_ret
   exact ⟨ret_bool (by rw[HF.out]),HA1.out.trans (Aside.of_below hbb),by rw[HF.out];exact HH1.out.below hbb (by rw[HSz.out];omega)⟩
  ·have g5:((l.length:Int)!=tk)=false:=by simp[g4]
   go_enter Tryz.func57,Tryz.ntmps57
   go_wp2_with fail
   refine (HTk.out _).mono ?_
   rintro e w2 ⟨rfl,hb2⟩
   have qe:=fun (o:Nat)=>hb2.cell (p:=⟨w.heap.size,o,none⟩) (by rw[HSz.out];show w.heap.size<_;omega)
   have qp:=fun (o:Nat)=>hb2.cell (p:=⟨w.heap.size+1,o,none⟩) (by rw[HSz.out];show w.heap.size+1<_;omega)
   have qh:=(hb2.cell (p:=⟨bl,0,none⟩) (by rw[HSz.out];show bl<_;omega)).trans HH1.out.1
   go_wp2_with fail
   refine (HLit.out _ (HA1.out.trans (Aside.of_below hb2))).mono ?_
   rintro e w3 ⟨rfl,hb3⟩
   have hbb:=below_then hb2 (Nat.le_refl _) hb3
   have qe3:=fun (o:Nat)=>(hbb).cell (p:=⟨w.heap.size,o,none⟩) (by rw[HSz.out];show w.heap.size<_;omega)
   have qp3:=fun (o:Nat)=>(hbb).cell (p:=⟨w.heap.size+1,o,none⟩) (by rw[HSz.out];show w.heap.size+1<_;omega)
   go_wp2
   go_ret
   exact ⟨ret_bool (by rw[HF.out]),HA1.out.trans (Aside.of_below hbb),by rw[HF.out];exact HH1.out.below hbb (by rw[HSz.out];omega)⟩
theorem can_dot (a:Int) (l:List Ex) (nm:ByteArray) (t:Tm) (ih:∀x∈l,CanC x) (x:List Value) (k:Int) (S:Nat→Prop) (w:World) (bl:Nat) (hS:Seen S w bl) (hbl:bl<w.heap.size) (hk:0≤k) (hk2:k≤16384) (hx:RdES w S (.mk oDot a l nm t) x) (hw:Words w S 1 kindWords) (hw2:Words w S 2 wordList) (hh:Hold w bl 0 (.int .i64 k)) (h0:0≤k-1) (ht0:¬takesV oDot nm<0) (ht9:takesV oDot nm=9∨(takesV oDot nm≠9∧(l.length:Int)=takesV oDot nm)) :
  Calls Tryz.prog 57 #[termOf x,.pointer (some ⟨bl,0,none⟩)] w (CanPost bl (canV (.mk oDot a l nm t) k) w):=by
 have hcond:¬(k-1<0∨takesV oDot nm<0∨(takesV oDot nm≠9∧((canVL l).length:Int)≠takesV oDot nm)):=by rw[show (canVL l).length=l.length by rw[canVL_eq];simp];omega
 have HU:Hid (canV (.mk oDot a l nm t) k=if partOK oDot nm t=true then canAll (canVL l) (k-1) else (false,k-1)):=Hd (by rw[canV];unfold canS;rw[if_neg hcond])
 clear hcond
 have hpo:partOK oDot nm t=nameOK nm:=by unfold partOK;rw[if_neg (by decide),if_neg (by decide),if_pos rfl]
 rw[hpo]at HU
 obtain ⟨A,c,y,rfl,hops,ha,hns,hty,hll,hp⟩:=hx
 replace hp:PartsS w S A l:=hp
 have hy:Eleven y:=hty.elevenS
 have HTk:=Hd (fun (W:World)=>takes_any oDot a (.slice A l.length c) nm y hy rfl W)
 have HLit:=Hd (fun (W:World) (hW:Aside bl w W)=>literal_any t y W (RdTS.more (fun b hb=>(hS.to hW.size b hb).1) _ _ (RdTS.keep (fun p hp=>hW.cell (hS _ hp).1 (hS _ hp).2) _ _ hty)))
 obtain ⟨n0,n1,n2,n3,n4,n5,n6,n7,n8,n9,n10,rfl,h1c⟩:=hy
 clear h1c
 have hh1:Hold (w.setCell ⟨bl,0,none⟩ (.int .i64 (k-1))) bl 0 (.int .i64 (k-1)):=hh.set _
 have hbl0:bl<(w.setCell ⟨bl,0,none⟩ (.int .i64 (k-1))).heap.size:=by simp;omega
 have hba:Below (w.setCell ⟨bl,0,none⟩ (.int .i64 (k-1))).heap.size (w.setCell ⟨bl,0,none⟩ (.int .i64 (k-1))) (((w.setCell ⟨bl,0,none⟩ (.int .i64 (k-1))).alloc (.cells #[.string oDot,.int .i64 a,.slice A l.length c,.string nm,n0,n1,n2,n3,n4,n5,n6,n7,n8,n9,n10] 32)).alloc (.cells #[.pointer (some ⟨bl,0,none⟩)] 109)):=bnew.alloc (by simp) _
 have HA1:Hid (Aside bl w (((w.setCell ⟨bl,0,none⟩ (.int .i64 (k-1))).alloc (.cells #[.string oDot,.int .i64 a,.slice A l.length c,.string nm,n0,n1,n2,n3,n4,n5,n6,n7,n8,n9,n10] 32)).alloc (.cells #[.pointer (some ⟨bl,0,none⟩)] 109))):=Hd ((Aside.set 0 _).trans (Aside.of_below hba))
 have HH1:Hid (Hold (((w.setCell ⟨bl,0,none⟩ (.int .i64 (k-1))).alloc (.cells #[.string oDot,.int .i64 a,.slice A l.length c,.string nm,n0,n1,n2,n3,n4,n5,n6,n7,n8,n9,n10] 32)).alloc (.cells #[.pointer (some ⟨bl,0,none⟩)] 109)) bl 0 (.int .i64 (k-1))):=Hd (hh1.below hba hbl0)
 have e0:wrap64 (k-1)=k-1:=by unfold wrap64;omega
 have HSz:Hid ((((w.setCell ⟨bl,0,none⟩ (.int .i64 (k-1))).alloc (.cells #[.string oDot,.int .i64 a,.slice A l.length c,.string nm,n0,n1,n2,n3,n4,n5,n6,n7,n8,n9,n10] 32)).alloc (.cells #[.pointer (some ⟨bl,0,none⟩)] 109)).heap.size=w.heap.size+2):=Hd (by simp)
 have hne:w.heap.size≠bl:=by omega
 have hne1:w.heap.size+1≠bl:=by omega
 obtain ⟨hc0,hf0⟩:=hh
 have hc1:(w.setCell ⟨bl,0,none⟩ (.int .i64 (k-1))).cell? ⟨bl,0,none⟩=some (.int .i64 (k-1)):=hh1.1
 clear hh1 hba hty
 have HCF:=Hd (fun (W:World) (hW:Below (((w.setCell ⟨bl,0,none⟩ (.int .i64 (k-1))).alloc (.cells #[.string oDot,.int .i64 a,.slice A l.length c,.string nm,n0,n1,n2,n3,n4,n5,n6,n7,n8,n9,n10] 32)).alloc (.cells #[.pointer (some ⟨bl,0,none⟩)] 109)).heap.size (((w.setCell ⟨bl,0,none⟩ (.int .i64 (k-1))).alloc (.cells #[.string oDot,.int .i64 a,.slice A l.length c,.string nm,n0,n1,n2,n3,n4,n5,n6,n7,n8,n9,n10] 32)).alloc (.cells #[.pointer (some ⟨bl,0,none⟩)] 109)) W) (h0:0≤k-1)=>containsE_any l ih A c (k-1) S W bl (w.heap.size+1) (hS.to (Nat.le_trans HA1.out.size hW.size)) (by have:=hW.size;rw[HSz.out]at this;omega) h0 (by omega) hll (PartsS.asideS hp hS (HA1.out.trans (Aside.of_below hW))) (hw.aside hS (HA1.out.trans (Aside.of_below hW))) (hw2.aside hS (HA1.out.trans (Aside.of_below hW))) (HH1.out.below hW (by rw[HSz.out];omega)) (by have:=hW.size;rw[HSz.out]at this;omega) hne1 ((hW.cell (p:=⟨w.heap.size+1,0,none⟩) (by rw[HSz.out];show w.heap.size+1<_;omega)).trans (by simp[go_sem])))
 have HW1:=Hd (fun (W:World) (hW:Aside bl w W)=>hw.aside hS hW)
 have HW2:=Hd (fun (W:World) (hW:Aside bl w W)=>hw2.aside hS hW)
 have hmf:∀(fn:Fn) (first cap:Array Value) (W:World),(Instr.makeFunc fn first cap).run Tryz.prog W=.ok (.func fn first cap) W:=fun _ _ _ _=>rfl
 clear ih hp hw hw2
 unfold termOf eV at *
 unfold CanPost at HCF
 have HNm:=Hd (fun (W:World)=>qname_any nm W hns)
 unfold BoolPost at HNm
 cases hpk:nameOK nm with
 | true =>
  rw[hpk]at HNm
  have HF:Hid (canV (.mk oDot a l nm t) k=canAll (canVL l) (k-1)):=Hd (by rw[HU.out,if_pos hpk])
  generalize takesV oDot nm=tk at *
  rcases ht9 with rfl|⟨g3,g4⟩
  ·go_enter Tryz.func57,Tryz.ntmps57
   go_wp2_with fail
   refine (HTk.out _).mono ?_
   rintro e w2 ⟨rfl,hb2⟩
   have qe:=fun (o:Nat)=>hb2.cell (p:=⟨w.heap.size,o,none⟩) (by rw[HSz.out];show w.heap.size<_;omega)
   have qp:=fun (o:Nat)=>hb2.cell (p:=⟨w.heap.size+1,o,none⟩) (by rw[HSz.out];show w.heap.size+1<_;omega)
   have qh:=(hb2.cell (p:=⟨bl,0,none⟩) (by rw[HSz.out];show bl<_;omega)).trans HH1.out.1
   go_wp2_with fail
   refine (HNm.out w2).mono ?_
   rintro e w3 ⟨rfl,hb3⟩
   have hbb:=below_then hb2 (Nat.le_refl _) hb3
   have qe3:=fun (o:Nat)=>(hbb).cell (p:=⟨w.heap.size,o,none⟩) (by rw[HSz.out];show w.heap.size<_;omega)
   have qp3:=fun (o:Nat)=>(hbb).cell (p:=⟨w.heap.size+1,o,none⟩) (by rw[HSz.out];show w.heap.size+1<_;omega)
   go_wp2_with fail
   refine (HCF.out _ hbb h0).mono ?_
   rintro e w9 ⟨rfl,hA9,hH9⟩
   go_wp2
   go_ret
   exact ⟨ret_bool (by rw[HF.out] <;> simp),HA1.out.trans ((Aside.of_below hbb).trans hA9),by rw[HF.out];exact hH9⟩
  ·have g5:((l.length:Int)!=tk)=false:=by simp[g4]
   go_enter Tryz.func57,Tryz.ntmps57
   go_wp2_with fail
   refine (HTk.out _).mono ?_
   rintro e w2 ⟨rfl,hb2⟩
   have qe:=fun (o:Nat)=>hb2.cell (p:=⟨w.heap.size,o,none⟩) (by rw[HSz.out];show w.heap.size<_;omega)
   have qp:=fun (o:Nat)=>hb2.cell (p:=⟨w.heap.size+1,o,none⟩) (by rw[HSz.out];show w.heap.size+1<_;omega)
   have qh:=(hb2.cell (p:=⟨bl,0,none⟩) (by rw[HSz.out];show bl<_;omega)).trans HH1.out.1
   go_wp2_with fail
   refine (HNm.out w2).mono ?_
   rintro e w3 ⟨rfl,hb3⟩
   have hbb:=below_then hb2 (Nat.le_refl _) hb3
   have qe3:=fun (o:Nat)=>(hbb).cell (p:=⟨w.heap.size,o,none⟩) (by rw[HSz.out];show w.heap.size<_;omega)
   have qp3:=fun (o:Nat)=>(hbb).cell (p:=⟨w.heap.size+1,o,none⟩) (by rw[HSz.out];show w.heap.size+1<_;omega)
   go_wp2_with fail
   refine (HCF.out _ hbb h0).mono ?_
   rintro e w9 ⟨rfl,hA9,hH9⟩
   go_wp2
   go_ret
   exact ⟨ret_bool (by rw[HF.out] <;> simp),HA1.out.trans ((Aside.of_below hbb).trans hA9),by rw[HF.out];exact hH9⟩
 | false =>
  rw[hpk]at HNm
  have HF:Hid (canV (.mk oDot a l nm t) k=(false,k-1)):=Hd (by rw[HU.out,if_neg (by rw[hpk];simp)])
  generalize takesV oDot nm=tk at *
  rcases ht9 with rfl|⟨g3,g4⟩
  ·go_enter Tryz.func57,Tryz.ntmps57
   go_wp2_with fail
   refine (HTk.out _).mono ?_
   rintro e w2 ⟨rfl,hb2⟩
   have qe:=fun (o:Nat)=>hb2.cell (p:=⟨w.heap.size,o,none⟩) (by rw[HSz.out];show w.heap.size<_;omega)
   have qp:=fun (o:Nat)=>hb2.cell (p:=⟨w.heap.size+1,o,none⟩) (by rw[HSz.out];show w.heap.size+1<_;omega)
   have qh:=(hb2.cell (p:=⟨bl,0,none⟩) (by rw[HSz.out];show bl<_;omega)).trans HH1.out.1
   go_wp2_with fail
   refine (HNm.out w2).mono ?_
   rintro e w3 ⟨rfl,hb3⟩
   have hbb:=below_then hb2 (Nat.le_refl _) hb3
   have qe3:=fun (o:Nat)=>(hbb).cell (p:=⟨w.heap.size,o,none⟩) (by rw[HSz.out];show w.heap.size<_;omega)
   have qp3:=fun (o:Nat)=>(hbb).cell (p:=⟨w.heap.size+1,o,none⟩) (by rw[HSz.out];show w.heap.size+1<_;omega)
   go_wp2
   go_ret
   exact ⟨ret_bool (by rw[HF.out]),HA1.out.trans (Aside.of_below hbb),by rw[HF.out];exact HH1.out.below hbb (by rw[HSz.out];omega)⟩
  ·have g5:((l.length:Int)!=tk)=false:=by simp[g4]
   go_enter Tryz.func57,Tryz.ntmps57
   go_wp2_with fail
   refine (HTk.out _).mono ?_
   rintro e w2 ⟨rfl,hb2⟩
   have qe:=fun (o:Nat)=>hb2.cell (p:=⟨w.heap.size,o,none⟩) (by rw[HSz.out];show w.heap.size<_;omega)
   have qp:=fun (o:Nat)=>hb2.cell (p:=⟨w.heap.size+1,o,none⟩) (by rw[HSz.out];show w.heap.size+1<_;omega)
   have qh:=(hb2.cell (p:=⟨bl,0,none⟩) (by rw[HSz.out];show bl<_;omega)).trans HH1.out.1
   go_wp2_with fail
   refine (HNm.out w2).mono ?_
   rintro e w3 ⟨rfl,hb3⟩
   have hbb:=below_then hb2 (Nat.le_refl _) hb3
   have qe3:=fun (o:Nat)=>(hbb).cell (p:=⟨w.heap.size,o,none⟩) (by rw[HSz.out];show w.heap.size<_;omega)
   have qp3:=fun (o:Nat)=>(hbb).cell (p:=⟨w.heap.size+1,o,none⟩) (by rw[HSz.out];show w.heap.size+1<_;omega)
   go_wp2
   go_ret
   exact ⟨ret_bool (by rw[HF.out]),HA1.out.trans (Aside.of_below hbb),by rw[HF.out];exact HH1.out.below hbb (by rw[HSz.out];omega)⟩
theorem can_other (op:ByteArray) (a:Int) (l:List Ex) (nm:ByteArray) (t:Tm) (ih:∀x∈l,CanC x) (x:List Value) (k:Int) (S:Nat→Prop) (w:World) (bl:Nat) (hS:Seen S w bl) (hbl:bl<w.heap.size) (hk:0≤k) (hk2:k≤16384) (hx:RdES w S (.mk op a l nm t) x) (hw:Words w S 1 kindWords) (hw2:Words w S 2 wordList) (hh:Hold w bl 0 (.int .i64 k)) (h0:0≤k-1) (ht0:¬takesV op nm<0) (ht9:takesV op nm=9∨(takesV op nm≠9∧(l.length:Int)=takesV op nm)) (hV:op≠oValue) (hF:op≠oField) (hD:op≠oDot) (hI:op≠oIs) :
  Calls Tryz.prog 57 #[termOf x,.pointer (some ⟨bl,0,none⟩)] w (CanPost bl (canV (.mk op a l nm t) k) w):=by
 have hpk:partOK op nm t=true:=by unfold partOK;rw[if_neg hV,if_neg hF,if_neg hD,if_neg hI]
 have hcond:¬(k-1<0∨takesV op nm<0∨(takesV op nm≠9∧((canVL l).length:Int)≠takesV op nm)):=by rw[show (canVL l).length=l.length by rw[canVL_eq];simp];omega
 have HU:Hid (canV (.mk op a l nm t) k=if partOK op nm t=true then canAll (canVL l) (k-1) else (false,k-1)):=Hd (by rw[canV];unfold canS;rw[if_neg hcond])
 clear hcond
 have HF:Hid (canV (.mk op a l nm t) k=canAll (canVL l) (k-1)):=Hd (by rw[HU.out,if_pos hpk])
 obtain ⟨A,c,y,rfl,hops,ha,hns,hty,hll,hp⟩:=hx
 replace hp:PartsS w S A l:=hp
 have hy:Eleven y:=hty.elevenS
 have HTk:=Hd (fun (W:World)=>takes_any op a (.slice A l.length c) nm y hy rfl W)
 have HLit:=Hd (fun (W:World) (hW:Aside bl w W)=>literal_any t y W (RdTS.more (fun b hb=>(hS.to hW.size b hb).1) _ _ (RdTS.keep (fun p hp=>hW.cell (hS _ hp).1 (hS _ hp).2) _ _ hty)))
 obtain ⟨n0,n1,n2,n3,n4,n5,n6,n7,n8,n9,n10,rfl,h1c⟩:=hy
 clear h1c
 have hh1:Hold (w.setCell ⟨bl,0,none⟩ (.int .i64 (k-1))) bl 0 (.int .i64 (k-1)):=hh.set _
 have hbl0:bl<(w.setCell ⟨bl,0,none⟩ (.int .i64 (k-1))).heap.size:=by simp;omega
 have hba:Below (w.setCell ⟨bl,0,none⟩ (.int .i64 (k-1))).heap.size (w.setCell ⟨bl,0,none⟩ (.int .i64 (k-1))) (((w.setCell ⟨bl,0,none⟩ (.int .i64 (k-1))).alloc (.cells #[.string op,.int .i64 a,.slice A l.length c,.string nm,n0,n1,n2,n3,n4,n5,n6,n7,n8,n9,n10] 32)).alloc (.cells #[.pointer (some ⟨bl,0,none⟩)] 109)):=bnew.alloc (by simp) _
 have HA1:Hid (Aside bl w (((w.setCell ⟨bl,0,none⟩ (.int .i64 (k-1))).alloc (.cells #[.string op,.int .i64 a,.slice A l.length c,.string nm,n0,n1,n2,n3,n4,n5,n6,n7,n8,n9,n10] 32)).alloc (.cells #[.pointer (some ⟨bl,0,none⟩)] 109))):=Hd ((Aside.set 0 _).trans (Aside.of_below hba))
 have HH1:Hid (Hold (((w.setCell ⟨bl,0,none⟩ (.int .i64 (k-1))).alloc (.cells #[.string op,.int .i64 a,.slice A l.length c,.string nm,n0,n1,n2,n3,n4,n5,n6,n7,n8,n9,n10] 32)).alloc (.cells #[.pointer (some ⟨bl,0,none⟩)] 109)) bl 0 (.int .i64 (k-1))):=Hd (hh1.below hba hbl0)
 have e0:wrap64 (k-1)=k-1:=by unfold wrap64;omega
 have HSz:Hid ((((w.setCell ⟨bl,0,none⟩ (.int .i64 (k-1))).alloc (.cells #[.string op,.int .i64 a,.slice A l.length c,.string nm,n0,n1,n2,n3,n4,n5,n6,n7,n8,n9,n10] 32)).alloc (.cells #[.pointer (some ⟨bl,0,none⟩)] 109)).heap.size=w.heap.size+2):=Hd (by simp)
 have hne:w.heap.size≠bl:=by omega
 have hne1:w.heap.size+1≠bl:=by omega
 obtain ⟨hc0,hf0⟩:=hh
 have hc1:(w.setCell ⟨bl,0,none⟩ (.int .i64 (k-1))).cell? ⟨bl,0,none⟩=some (.int .i64 (k-1)):=hh1.1
 clear hh1 hba hty
 have HCF:=Hd (fun (W:World) (hW:Below (((w.setCell ⟨bl,0,none⟩ (.int .i64 (k-1))).alloc (.cells #[.string op,.int .i64 a,.slice A l.length c,.string nm,n0,n1,n2,n3,n4,n5,n6,n7,n8,n9,n10] 32)).alloc (.cells #[.pointer (some ⟨bl,0,none⟩)] 109)).heap.size (((w.setCell ⟨bl,0,none⟩ (.int .i64 (k-1))).alloc (.cells #[.string op,.int .i64 a,.slice A l.length c,.string nm,n0,n1,n2,n3,n4,n5,n6,n7,n8,n9,n10] 32)).alloc (.cells #[.pointer (some ⟨bl,0,none⟩)] 109)) W) (h0:0≤k-1)=>containsE_any l ih A c (k-1) S W bl (w.heap.size+1) (hS.to (Nat.le_trans HA1.out.size hW.size)) (by have:=hW.size;rw[HSz.out]at this;omega) h0 (by omega) hll (PartsS.asideS hp hS (HA1.out.trans (Aside.of_below hW))) (hw.aside hS (HA1.out.trans (Aside.of_below hW))) (hw2.aside hS (HA1.out.trans (Aside.of_below hW))) (HH1.out.below hW (by rw[HSz.out];omega)) (by have:=hW.size;rw[HSz.out]at this;omega) hne1 ((hW.cell (p:=⟨w.heap.size+1,0,none⟩) (by rw[HSz.out];show w.heap.size+1<_;omega)).trans (by simp[go_sem])))
 have HW1:=Hd (fun (W:World) (hW:Aside bl w W)=>hw.aside hS hW)
 have HW2:=Hd (fun (W:World) (hW:Aside bl w W)=>hw2.aside hS hW)
 have hmf:∀(fn:Fn) (first cap:Array Value) (W:World),(Instr.makeFunc fn first cap).run Tryz.prog W=.ok (.func fn first cap) W:=fun _ _ _ _=>rfl
 clear ih hp hw hw2
 unfold termOf eV at *
 unfold CanPost at HCF
 have eV':=neS [118,97,108,117,101] hV
 have eF':=neS [102,105,101,108,100] hF
 have eD':=neS [100,111,116] hD
 have eI':=neS [105,115] hI
 clear hV hF hD hI
 generalize takesV op nm=tk at *
 rcases ht9 with rfl|⟨g3,g4⟩
 ·go_enter Tryz.func57,Tryz.ntmps57
  go_wp2_with fail
  refine (HTk.out _).mono ?_
  rintro e w2 ⟨rfl,hb2⟩
  have qe:=fun (o:Nat)=>hb2.cell (p:=⟨w.heap.size,o,none⟩) (by rw[HSz.out];show w.heap.size<_;omega)
  have qp:=fun (o:Nat)=>hb2.cell (p:=⟨w.heap.size+1,o,none⟩) (by rw[HSz.out];show w.heap.size+1<_;omega)
  have qh:=(hb2.cell (p:=⟨bl,0,none⟩) (by rw[HSz.out];show bl<_;omega)).trans HH1.out.1
  go_wp2_with fail
  refine (HCF.out _ hb2 h0).mono ?_
  rintro e w9 ⟨rfl,hA9,hH9⟩
  go_wp2
  go_ret
  exact ⟨ret_bool (by rw[HF.out] <;> simp),HA1.out.trans ((Aside.of_below hb2).trans hA9),by rw[HF.out];exact hH9⟩
 ·have g5:((l.length:Int)!=tk)=false:=by simp[g4]
  go_enter Tryz.func57,Tryz.ntmps57
  go_wp2_with fail
  refine (HTk.out _).mono ?_
  rintro e w2 ⟨rfl,hb2⟩
  have qe:=fun (o:Nat)=>hb2.cell (p:=⟨w.heap.size,o,none⟩) (by rw[HSz.out];show w.heap.size<_;omega)
  have qp:=fun (o:Nat)=>hb2.cell (p:=⟨w.heap.size+1,o,none⟩) (by rw[HSz.out];show w.heap.size+1<_;omega)
  have qh:=(hb2.cell (p:=⟨bl,0,none⟩) (by rw[HSz.out];show bl<_;omega)).trans HH1.out.1
  go_wp2_with fail
  refine (HCF.out _ hb2 h0).mono ?_
  rintro e w9 ⟨rfl,hA9,hH9⟩
  go_wp2
  go_ret
  exact ⟨ret_bool (by rw[HF.out] <;> simp),HA1.out.trans ((Aside.of_below hb2).trans hA9),by rw[HF.out];exact hH9⟩
end Go.Proofs.YtbemeapjeipjlaaGreatDoor
