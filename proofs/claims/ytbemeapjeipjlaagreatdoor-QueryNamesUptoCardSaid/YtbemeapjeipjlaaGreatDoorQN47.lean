/- Walks of the reference's query: names. -/
import Derived.Test.YtbemeapjeipjlaaGreatDoorQN46
import Derived.Test.YtbemeapjeipjlaaGreatDoorQN28
import Derived.Test.YtbemeapjeipjlaaGreatDoorQN10
set_option linter.unusedVariables false
set_option linter.unusedSimpArgs false
namespace Go.Proofs.YtbemeapjeipjlaaGreatDoor
open Go Go.RowKit
set_option maxRecDepth 100000
set_option maxHeartbeats 8000000
theorem sizeEL_le (l:List Ex) (j:Nat):sizeEL (l.take j)≤sizeEL l:=by
 induction l generalizing j with
 | nil=>simp[sizeEL]
 | cons x r ih=>cases j with
  | zero=>simp[sizeEL]
  | succ j=>simp only[List.take_succ_cons,sizeEL];have:=ih j;omega
def SkipP (op nm:ByteArray) (i:Nat):Prop:=i=1∧op=oCall∧turnsB nm=true
def NamesPostN (e:Ex) (L:List ByteArray) (m:Nat) (w:World) (y:Ending) (w':World):Prop:=∃A c L' only,y=.returned (.tuple #[.slice A L'.length c,.bool only])∧WordsAt w' (fun b=>b<w'.heap.size) A L'∧Hid ((∀s∈L,s∈L')∧(only=true→AskSame e L'))∧L'.length≤L.length+m∧Below w.heap.size w w'
def NamesPost (e:Ex) (L:List ByteArray) (w:World):Ending→World→Prop:=NamesPostN e L (sizeE e) w
def NamesC (e:Ex):Prop:=∀(x:List Value) (L:List ByteArray) (A:Option Addr) (c:Nat) (w:World),RdE w w.heap.size e x→shapeE e→L.length+sizeE e≤16384→WordsAt w (fun b=>b<w.heap.size) A L→Calls Tryz.prog 22 #[termOf x,.slice A L.length c] w (NamesPost e L w)
theorem WordsAt.on {w w':World} {A:Option Addr} {L:List ByteArray} (h:WordsAt w (fun b=>b<w.heap.size) A L) (hb:Below w.heap.size w w'):WordsAt w' (fun b=>b<w'.heap.size) A L:=(h.keep (fun p hp=>hb.cell hp)).more (fun b h=>Nat.lt_of_lt_of_le h hb.size)
theorem names_self (a:Int) (l:List Ex) (nm:ByteArray) (t:Tm) (ih:∀x∈l,NamesC x):NamesC (.mk oSelf a l nm t):=by
 rintro x L A c w ⟨Al,cl,y,rfl,hop,ha,hnm,ht,hll,hl⟩ ⟨hsh1,hsh2,hsh3⟩ hLn hA
 have HSH:=Hd (shapeEL_iff.1 hsh3)
 rw[sizeE]at hLn
 have hsE:sizeE (.mk oSelf a l nm t)=1+sizeEL l:=by rw[sizeE]
 rw[show NamesPost (.mk oSelf a l nm t) L w=NamesPostN (.mk oSelf a l nm t) L (1+sizeEL l) w by unfold NamesPost;rw[hsE]]
 clear hsE
 obtain ⟨n0,n1,n2,n3,n4,n5,n6,n7,n8,n9,n10,rfl,-⟩:=ht.eleven
 unfold termOf
 have HB:Hid (Below w.heap.size w (w.alloc (.cells #[.string oSelf,.int .i64 a,.slice Al l.length cl,.string nm,n0,n1,n2,n3,n4,n5,n6,n7,n8,n9,n10] 32))):=Hd bnew
 have hsz:(w.alloc (.cells #[.string oSelf,.int .i64 a,.slice Al l.length cl,.string nm,n0,n1,n2,n3,n4,n5,n6,n7,n8,n9,n10] 32)).heap.size=w.heap.size+1:=by simp
 have hWz:=hA.on HB.out
 go_enter Tryz.func22,Tryz.ntmps22
 go_wp2
 go_ret2
 exact ⟨A,c,L,false,rfl,hWz,Hd ⟨fun s h=>h,fun h=>absurd h (by decide)⟩,by omega,HB.out⟩
theorem names_field (a:Int) (l:List Ex) (nm:ByteArray) (t:Tm) (ih:∀x∈l,NamesC x):NamesC (.mk oField a l nm t):=by
 rintro x L A c w ⟨Al,cl,y,rfl,hop,ha,hnm,ht,hll,hl⟩ ⟨hsh1,hsh2,hsh3⟩ hLn hA
 have HSH:=Hd (shapeEL_iff.1 hsh3)
 rw[sizeE]at hLn
 have hsE:sizeE (.mk oField a l nm t)=1+sizeEL l:=by rw[sizeE]
 rw[show NamesPost (.mk oField a l nm t) L w=NamesPostN (.mk oField a l nm t) L (1+sizeEL l) w by unfold NamesPost;rw[hsE]]
 clear hsE
 obtain ⟨n0,n1,n2,n3,n4,n5,n6,n7,n8,n9,n10,rfl,-⟩:=ht.eleven
 unfold termOf
 have HB:Hid (Below w.heap.size w (w.alloc (.cells #[.string oField,.int .i64 a,.slice Al l.length cl,.string nm,n0,n1,n2,n3,n4,n5,n6,n7,n8,n9,n10] 32))):=Hd bnew
 have hsz:(w.alloc (.cells #[.string oField,.int .i64 a,.slice Al l.length cl,.string nm,n0,n1,n2,n3,n4,n5,n6,n7,n8,n9,n10] 32)).heap.size=w.heap.size+1:=by simp
 have hWz:=hA.on HB.out
 have HWI:=Hd (with_any L A c nm (fun b=>b<(w.alloc (.cells #[.string oField,.int .i64 a,.slice Al l.length cl,.string nm,n0,n1,n2,n3,n4,n5,n6,n7,n8,n9,n10] 32)).heap.size) (w.alloc (.cells #[.string oField,.int .i64 a,.slice Al l.length cl,.string nm,n0,n1,n2,n3,n4,n5,n6,n7,n8,n9,n10] 32)) (fun b h=>h) (by omega) hWz)
 go_enter Tryz.func22,Tryz.ntmps22
 go_wp2_with fail
 refine HWI.out.mono ?_
 rintro e w1 ⟨A2,c2,L2,rfl,g1,g2,g3,g4⟩
 go_wp2
 go_ret2
 exact ⟨A2,c2,L2,true,rfl,g1.more (fun b h=>h.elim (fun h=>Nat.lt_of_lt_of_le h g4.size) (fun h=>h.2)),Hd ⟨fun s h=>(g2.out s).2 (.inr h),fun _=>askSame_field a l nm t ((g2.out nm).2 (.inl rfl))⟩,by omega,HB.out.trans (g4.mono HB.out.size)⟩
theorem names_call (a:Int) (l:List Ex) (nm:ByteArray) (t:Tm) (ih:∀x∈l,NamesC x):NamesC (.mk oCall a l nm t):=by
 rintro x L A c w ⟨Al,cl,y,rfl,hop,ha,hnm,ht,hll,hl⟩ ⟨hsh1,hsh2,hsh3⟩ hLn hA
 have HSH:=Hd (shapeEL_iff.1 hsh3)
 rw[sizeE]at hLn
 have hsE:sizeE (.mk oCall a l nm t)=1+sizeEL l:=by rw[sizeE]
 rw[show NamesPost (.mk oCall a l nm t) L w=NamesPostN (.mk oCall a l nm t) L (1+sizeEL l) w by unfold NamesPost;rw[hsE]]
 clear hsE
 obtain ⟨n0,n1,n2,n3,n4,n5,n6,n7,n8,n9,n10,rfl,-⟩:=ht.eleven
 unfold termOf
 have HB:Hid (Below w.heap.size w (w.alloc (.cells #[.string oCall,.int .i64 a,.slice Al l.length cl,.string nm,n0,n1,n2,n3,n4,n5,n6,n7,n8,n9,n10] 32))):=Hd bnew
 have hsz:(w.alloc (.cells #[.string oCall,.int .i64 a,.slice Al l.length cl,.string nm,n0,n1,n2,n3,n4,n5,n6,n7,n8,n9,n10] 32)).heap.size=w.heap.size+1:=by simp
 have hWz:=hA.on HB.out
 have HNS:Hid (oCall≠oSelf∧oCall≠oField):=Hd ⟨by decide,by decide⟩
 have HE:=Hd (fun (W:World)=>reach_any nm W)
 have hz:Below (w.heap.size+1) (w.alloc (.cells #[.string oCall,.int .i64 a,.slice Al l.length cl,.string nm,n0,n1,n2,n3,n4,n5,n6,n7,n8,n9,n10] 32)) (w.alloc (.cells #[.string oCall,.int .i64 a,.slice Al l.length cl,.string nm,n0,n1,n2,n3,n4,n5,n6,n7,n8,n9,n10] 32)):=Below.refl _ _
 go_enter Tryz.func22,Tryz.ntmps22
 have hzs:=hz.size
 rw[hsz]at hzs
 go_wp2_with fail
 go_loopw [1,7,8] (fun v ov jv wr=>∃(j:Nat) (A1:Option Addr) (c1:Nat) (L1:List ByteArray) (on:Bool),v=.slice A1 L1.length c1∧ov=.bool on∧jv=.int .i64 j∧j≤l.length∧Below (w.heap.size+1) (w.alloc (.cells #[.string oCall,.int .i64 a,.slice Al l.length cl,.string nm,n0,n1,n2,n3,n4,n5,n6,n7,n8,n9,n10] 32)) wr∧WordsAt wr (fun b=>b<wr.heap.size) A1 L1∧L1.length≤L.length+sizeEL (l.take j)∧Hid ((∀s∈L,s∈L1)∧(on=true→∀(i:Nat) x,i<j→l[i]?=some x→¬SkipP oCall nm i→AskSame x L1))) (fun _ _ jv _=>l.length-(intOf jv).toNat)
 case atStart=>exact ⟨0,A,c,L,true,rfl,rfl,rfl,by omega,hz,hWz,by omega,Hd ⟨fun s h=>h,fun _ i x h=>absurd h (by omega)⟩⟩
 case round =>
  obtain ⟨j,A1,c1,L1,on,rfl,rfl,rfl,hj,hb,hW,hL1,HX⟩:=hrel
  have hbz:=hb.size
  rw[hsz]at hbz
  have e0:wr.cell? ⟨w.heap.size,0,none⟩=some (.string oCall):=(hb.cell (p:=⟨w.heap.size,0,none⟩) (show w.heap.size<w.heap.size+1 by omega)).trans (by simp[go_sem])
  have e2:wr.cell? ⟨w.heap.size,2,none⟩=some (.slice Al l.length cl):=(hb.cell (p:=⟨w.heap.size,2,none⟩) (show w.heap.size<w.heap.size+1 by omega)).trans (by simp[go_sem])
  have e3:wr.cell? ⟨w.heap.size,3,none⟩=some (.string nm):=(hb.cell (p:=⟨w.heap.size,3,none⟩) (show w.heap.size<w.heap.size+1 by omega)).trans (by simp[go_sem])
  have hwl:w.heap.size<wr.heap.size:=by omega
  have hB0:=HB.out.trans (hb.mono (by omega))
  by_cases hlt:j<l.length
  ·by_cases hj1:j=1
   ·have hjb:((j:Int)==1)=true:=by simp;omega
    cases ht:turnsB nm
    ·rw[ht]at HE
     have HE2:=HE
     clear hj1
     obtain ⟨bk,off,rfl,hbB,hrd⟩:=hl.resolve_left (fun h=>by rw[h]at hlt;simp at hlt)
     obtain ⟨x,hx⟩:∃x,l[j]?=some x:=⟨_,List.getElem?_eq_getElem hlt⟩
     obtain ⟨v,hv,hvd⟩:=RdEL.iff.1 hrd j x hx
     have hv':=hv.keep (fun q hq=>hB0.cell (show q.block<_ by rw[hq];exact hbB))
     have hbk:bk<wr.heap.size:=by omega
     have HZ:=Hd (sizeEL_take hx)
     have hle:=sizeEL_le l (j+1)
     rw[HZ.out]at hle
     have HI:=Hd (ih x (List.mem_of_getElem? hx) v L1 A1 c1 wr (RdE.more hB0.size _ _ (RdE.below hvd hB0)) (HSH.out x (List.mem_of_getElem? hx)) (by omega) hW)
     obtain ⟨c0,c1,c2,c3,c4,c5,c6,c7,c8,c9,c10,c11,c12,c13,c14,rfl,-⟩:=Ex.cells15 hvd
     unfold termOf at HI
     obtain ⟨q0,q1,q2,q3,q4,q5,q6,q7,q8,q9,q10,q11,q12,q13,q14⟩:=lie15 hv'
     have HX0:=Hd hx
     clear hv hvd hv' hrd hx hl ih hle
     go_wp2_with fail
     refine (HE2.out _).mono ?_
     rintro e we ⟨rfl,rfl⟩
     go_wp2_with fail
     refine HI.out.mono ?_
     rintro e wz2 ⟨A2,c2,L2,ok,rfl,g1,g2,g3,g4⟩
     have hb2:=hb.trans (g4.mono (by omega))
     have HX2:Hid ((∀s∈L,s∈L2)∧((on&&ok)=true→∀(i:Nat) x,i<j+1→l[i]?=some x→¬SkipP oCall nm i→AskSame x L2)):=Hd ⟨fun s hs=>g2.out.1 s (HX.out.1 s hs),fun hon i x' hi hx' hn=>by
      have hon2:=(Bool.and_eq_true _ _).mp hon
      by_cases hij:i=j
      ·subst hij
       rw[HX0.out]at hx'
       injection hx' with hx'
       subst hx'
       exact g2.out.2 hon2.2
      ·exact (HX.out.2 hon2.1 i x' (by omega) hx' hn).mono g2.out.1⟩
     have hL2:L2.length≤L.length+sizeEL (l.take (j+1)):=by rw[HZ.out];omega
     clear HX0 HX g2 g4 HI HZ
     cases on
     ·go_wp2
      refine ⟨⟨j+1,A2,c2,L2,false,rfl,rfl,rfl,hlt,hb2,g1,hL2,HX2⟩,?_⟩
      simp[intOf]
      omega
     ·go_wp2
      refine ⟨⟨j+1,A2,c2,L2,ok,rfl,rfl,rfl,hlt,hb2,g1,hL2,HX2⟩,?_⟩
      simp[intOf]
      omega
    ·rw[ht]at HE
     have HT1:=Hd ht
     have HX2:Hid ((∀s∈L,s∈L1)∧(on=true→∀(i:Nat) x,i<j+1→l[i]?=some x→¬SkipP oCall nm i→AskSame x L1)):=Hd ⟨HX.out.1,fun hon i x' hi hx' hn=>by
      by_cases hij:i=j
      ·exact absurd ⟨hij.trans hj1,rfl,HT1.out⟩ hn
      ·exact HX.out.2 hon i x' (by omega) hx' hn⟩
     have hL2:L1.length≤L.length+sizeEL (l.take (j+1)):=by
      obtain ⟨x,hx⟩:∃x,l[j]?=some x:=⟨_,List.getElem?_eq_getElem hlt⟩
      rw[sizeEL_take hx];omega
     clear HX hj1
     go_wp2_with fail
     refine (HE.out _).mono ?_
     rintro e we ⟨rfl,rfl⟩
     go_wp2
     refine ⟨⟨j+1,A1,c1,L1,on,rfl,rfl,rfl,hlt,hb,hW,hL2,HX2⟩,?_⟩
     simp[intOf]
     omega
   ·have hjb:((j:Int)==1)=false:=by simp;omega
    obtain ⟨bk,off,rfl,hbB,hrd⟩:=hl.resolve_left (fun h=>by rw[h]at hlt;simp at hlt)
    obtain ⟨x,hx⟩:∃x,l[j]?=some x:=⟨_,List.getElem?_eq_getElem hlt⟩
    obtain ⟨v,hv,hvd⟩:=RdEL.iff.1 hrd j x hx
    have hv':=hv.keep (fun q hq=>hB0.cell (show q.block<_ by rw[hq];exact hbB))
    have hbk:bk<wr.heap.size:=by omega
    have HZ:=Hd (sizeEL_take hx)
    have hle:=sizeEL_le l (j+1)
    rw[HZ.out]at hle
    have HI:=Hd (ih x (List.mem_of_getElem? hx) v L1 A1 c1 wr (RdE.more hB0.size _ _ (RdE.below hvd hB0)) (HSH.out x (List.mem_of_getElem? hx)) (by omega) hW)
    obtain ⟨c0,c1,c2,c3,c4,c5,c6,c7,c8,c9,c10,c11,c12,c13,c14,rfl,-⟩:=Ex.cells15 hvd
    unfold termOf at HI
    obtain ⟨q0,q1,q2,q3,q4,q5,q6,q7,q8,q9,q10,q11,q12,q13,q14⟩:=lie15 hv'
    have HX0:=Hd hx
    clear hv hvd hv' hrd hx hl ih hle
    go_wp2_with fail
    refine HI.out.mono ?_
    rintro e wz2 ⟨A2,c2,L2,ok,rfl,g1,g2,g3,g4⟩
    have hb2:=hb.trans (g4.mono (by omega))
    have HX2:Hid ((∀s∈L,s∈L2)∧((on&&ok)=true→∀(i:Nat) x,i<j+1→l[i]?=some x→¬SkipP oCall nm i→AskSame x L2)):=Hd ⟨fun s hs=>g2.out.1 s (HX.out.1 s hs),fun hon i x' hi hx' hn=>by
     have hon2:=(Bool.and_eq_true _ _).mp hon
     by_cases hij:i=j
     ·subst hij
      rw[HX0.out]at hx'
      injection hx' with hx'
      subst hx'
      exact g2.out.2 hon2.2
     ·exact (HX.out.2 hon2.1 i x' (by omega) hx' hn).mono g2.out.1⟩
    have hL2:L2.length≤L.length+sizeEL (l.take (j+1)):=by rw[HZ.out];omega
    clear HX0 HX g2 g4 HI HZ
    cases on
    ·go_wp2
     refine ⟨⟨j+1,A2,c2,L2,false,rfl,rfl,rfl,hlt,hb2,g1,hL2,HX2⟩,?_⟩
     simp[intOf]
     omega
    ·go_wp2
     refine ⟨⟨j+1,A2,c2,L2,ok,rfl,rfl,rfl,hlt,hb2,g1,hL2,HX2⟩,?_⟩
     simp[intOf]
     omega
  ·obtain rfl:j=l.length:=by omega
   rw[List.take_length]at hL1
   go_wp2
   go_ret2
   exact ⟨A1,c1,L1,on,rfl,hW,Hd ⟨HX.out.1,fun h=>askSame_parts oCall a l nm t HNS.out.1 HNS.out.2 (fun i x hx hn=>HX.out.2 h i x (List.getElem?_eq_some_iff.1 hx).1 hx hn)⟩,by omega,hB0⟩
theorem names_other (op:ByteArray) (e1:op≠oSelf) (e2:op≠oField) (e3:op≠oDot) (e4:op≠oAt) (e5:op≠oCall) (a:Int) (l:List Ex) (nm:ByteArray) (t:Tm) (ih:∀x∈l,NamesC x):NamesC (.mk op a l nm t):=by
 rintro x L A c w ⟨Al,cl,y,rfl,hop,ha,hnm,ht,hll,hl⟩ ⟨hsh1,hsh2,hsh3⟩ hLn hA
 have HSH:=Hd (shapeEL_iff.1 hsh3)
 rw[sizeE]at hLn
 have hsE:sizeE (.mk op a l nm t)=1+sizeEL l:=by rw[sizeE]
 rw[show NamesPost (.mk op a l nm t) L w=NamesPostN (.mk op a l nm t) L (1+sizeEL l) w by unfold NamesPost;rw[hsE]]
 clear hsE
 obtain ⟨n0,n1,n2,n3,n4,n5,n6,n7,n8,n9,n10,rfl,-⟩:=ht.eleven
 unfold termOf
 have HB:Hid (Below w.heap.size w (w.alloc (.cells #[.string op,.int .i64 a,.slice Al l.length cl,.string nm,n0,n1,n2,n3,n4,n5,n6,n7,n8,n9,n10] 32))):=Hd bnew
 have hsz:(w.alloc (.cells #[.string op,.int .i64 a,.slice Al l.length cl,.string nm,n0,n1,n2,n3,n4,n5,n6,n7,n8,n9,n10] 32)).heap.size=w.heap.size+1:=by simp
 have hWz:=hA.on HB.out
 have HNS:Hid (op≠oSelf∧op≠oField):=Hd ⟨e1,e2⟩
 have hz:Below (w.heap.size+1) (w.alloc (.cells #[.string op,.int .i64 a,.slice Al l.length cl,.string nm,n0,n1,n2,n3,n4,n5,n6,n7,n8,n9,n10] 32)) (w.alloc (.cells #[.string op,.int .i64 a,.slice Al l.length cl,.string nm,n0,n1,n2,n3,n4,n5,n6,n7,n8,n9,n10] 32)):=Below.refl _ _
 have g1:=neS [115,101,108,102] e1
 have g2:=neS [102,105,101,108,100] e2
 have g3:=neS [100,111,116] e3
 have g4:=neS [97,116] e4
 have g5:=neS [99,97,108,108] e5
 clear e1 e2 e3 e4 e5 hsh1 hsh2
 go_enter Tryz.func22,Tryz.ntmps22
 have hzs:=hz.size
 rw[hsz]at hzs
 go_wp2_with fail
 go_loopw [1,7,8] (fun v ov jv wr=>∃(j:Nat) (A1:Option Addr) (c1:Nat) (L1:List ByteArray) (on:Bool),v=.slice A1 L1.length c1∧ov=.bool on∧jv=.int .i64 j∧j≤l.length∧Below (w.heap.size+1) (w.alloc (.cells #[.string op,.int .i64 a,.slice Al l.length cl,.string nm,n0,n1,n2,n3,n4,n5,n6,n7,n8,n9,n10] 32)) wr∧WordsAt wr (fun b=>b<wr.heap.size) A1 L1∧L1.length≤L.length+sizeEL (l.take j)∧Hid ((∀s∈L,s∈L1)∧(on=true→∀(i:Nat) x,i<j→l[i]?=some x→¬SkipP op nm i→AskSame x L1))) (fun _ _ jv _=>l.length-(intOf jv).toNat)
 case atStart=>exact ⟨0,A,c,L,true,rfl,rfl,rfl,by omega,hz,hWz,by omega,Hd ⟨fun s h=>h,fun _ i x h=>absurd h (by omega)⟩⟩
 case round =>
  obtain ⟨j,A1,c1,L1,on,rfl,rfl,rfl,hj,hb,hW,hL1,HX⟩:=hrel
  have hbz:=hb.size
  rw[hsz]at hbz
  have e0:wr.cell? ⟨w.heap.size,0,none⟩=some (.string op):=(hb.cell (p:=⟨w.heap.size,0,none⟩) (show w.heap.size<w.heap.size+1 by omega)).trans (by simp[go_sem])
  have e2:wr.cell? ⟨w.heap.size,2,none⟩=some (.slice Al l.length cl):=(hb.cell (p:=⟨w.heap.size,2,none⟩) (show w.heap.size<w.heap.size+1 by omega)).trans (by simp[go_sem])
  have e3:wr.cell? ⟨w.heap.size,3,none⟩=some (.string nm):=(hb.cell (p:=⟨w.heap.size,3,none⟩) (show w.heap.size<w.heap.size+1 by omega)).trans (by simp[go_sem])
  have hwl:w.heap.size<wr.heap.size:=by omega
  have hB0:=HB.out.trans (hb.mono (by omega))
  by_cases hlt:j<l.length
  ·by_cases hj1:j=1
   ·have hjb:((j:Int)==1)=true:=by simp;omega
    clear hj1
    obtain ⟨bk,off,rfl,hbB,hrd⟩:=hl.resolve_left (fun h=>by rw[h]at hlt;simp at hlt)
    obtain ⟨x,hx⟩:∃x,l[j]?=some x:=⟨_,List.getElem?_eq_getElem hlt⟩
    obtain ⟨v,hv,hvd⟩:=RdEL.iff.1 hrd j x hx
    have hv':=hv.keep (fun q hq=>hB0.cell (show q.block<_ by rw[hq];exact hbB))
    have hbk:bk<wr.heap.size:=by omega
    have HZ:=Hd (sizeEL_take hx)
    have hle:=sizeEL_le l (j+1)
    rw[HZ.out]at hle
    have HI:=Hd (ih x (List.mem_of_getElem? hx) v L1 A1 c1 wr (RdE.more hB0.size _ _ (RdE.below hvd hB0)) (HSH.out x (List.mem_of_getElem? hx)) (by omega) hW)
    obtain ⟨c0,c1,c2,c3,c4,c5,c6,c7,c8,c9,c10,c11,c12,c13,c14,rfl,-⟩:=Ex.cells15 hvd
    unfold termOf at HI
    obtain ⟨q0,q1,q2,q3,q4,q5,q6,q7,q8,q9,q10,q11,q12,q13,q14⟩:=lie15 hv'
    have HX0:=Hd hx
    clear hv hvd hv' hrd hx hl ih hle
    go_wp2_with fail
    refine HI.out.mono ?_
    rintro e wz2 ⟨A2,c2,L2,ok,rfl,g1,g2,g3,g4⟩
    have hb2:=hb.trans (g4.mono (by omega))
    have HX2:Hid ((∀s∈L,s∈L2)∧((on&&ok)=true→∀(i:Nat) x,i<j+1→l[i]?=some x→¬SkipP op nm i→AskSame x L2)):=Hd ⟨fun s hs=>g2.out.1 s (HX.out.1 s hs),fun hon i x' hi hx' hn=>by
     have hon2:=(Bool.and_eq_true _ _).mp hon
     by_cases hij:i=j
     ·subst hij
      rw[HX0.out]at hx'
      injection hx' with hx'
      subst hx'
      exact g2.out.2 hon2.2
     ·exact (HX.out.2 hon2.1 i x' (by omega) hx' hn).mono g2.out.1⟩
    have hL2:L2.length≤L.length+sizeEL (l.take (j+1)):=by rw[HZ.out];omega
    clear HX0 HX g2 g4 HI HZ
    cases on
    ·go_wp2
     refine ⟨⟨j+1,A2,c2,L2,false,rfl,rfl,rfl,hlt,hb2,g1,hL2,HX2⟩,?_⟩
     simp[intOf]
     omega
    ·go_wp2
     refine ⟨⟨j+1,A2,c2,L2,ok,rfl,rfl,rfl,hlt,hb2,g1,hL2,HX2⟩,?_⟩
     simp[intOf]
     omega
   ·have hjb:((j:Int)==1)=false:=by simp;omega
    obtain ⟨bk,off,rfl,hbB,hrd⟩:=hl.resolve_left (fun h=>by rw[h]at hlt;simp at hlt)
    obtain ⟨x,hx⟩:∃x,l[j]?=some x:=⟨_,List.getElem?_eq_getElem hlt⟩
    obtain ⟨v,hv,hvd⟩:=RdEL.iff.1 hrd j x hx
    have hv':=hv.keep (fun q hq=>hB0.cell (show q.block<_ by rw[hq];exact hbB))
    have hbk:bk<wr.heap.size:=by omega
    have HZ:=Hd (sizeEL_take hx)
    have hle:=sizeEL_le l (j+1)
    rw[HZ.out]at hle
    have HI:=Hd (ih x (List.mem_of_getElem? hx) v L1 A1 c1 wr (RdE.more hB0.size _ _ (RdE.below hvd hB0)) (HSH.out x (List.mem_of_getElem? hx)) (by omega) hW)
    obtain ⟨c0,c1,c2,c3,c4,c5,c6,c7,c8,c9,c10,c11,c12,c13,c14,rfl,-⟩:=Ex.cells15 hvd
    unfold termOf at HI
    obtain ⟨q0,q1,q2,q3,q4,q5,q6,q7,q8,q9,q10,q11,q12,q13,q14⟩:=lie15 hv'
    have HX0:=Hd hx
    clear hv hvd hv' hrd hx hl ih hle
    go_wp2_with fail
    refine HI.out.mono ?_
    rintro e wz2 ⟨A2,c2,L2,ok,rfl,g1,g2,g3,g4⟩
    have hb2:=hb.trans (g4.mono (by omega))
    have HX2:Hid ((∀s∈L,s∈L2)∧((on&&ok)=true→∀(i:Nat) x,i<j+1→l[i]?=some x→¬SkipP op nm i→AskSame x L2)):=Hd ⟨fun s hs=>g2.out.1 s (HX.out.1 s hs),fun hon i x' hi hx' hn=>by
     have hon2:=(Bool.and_eq_true _ _).mp hon
     by_cases hij:i=j
     ·subst hij
      rw[HX0.out]at hx'
      injection hx' with hx'
      subst hx'
      exact g2.out.2 hon2.2
     ·exact (HX.out.2 hon2.1 i x' (by omega) hx' hn).mono g2.out.1⟩
    have hL2:L2.length≤L.length+sizeEL (l.take (j+1)):=by rw[HZ.out];omega
    clear HX0 HX g2 g4 HI HZ
    cases on
    ·go_wp2
     refine ⟨⟨j+1,A2,c2,L2,false,rfl,rfl,rfl,hlt,hb2,g1,hL2,HX2⟩,?_⟩
     simp[intOf]
     omega
    ·go_wp2
     refine ⟨⟨j+1,A2,c2,L2,ok,rfl,rfl,rfl,hlt,hb2,g1,hL2,HX2⟩,?_⟩
     simp[intOf]
     omega
  ·obtain rfl:j=l.length:=by omega
   rw[List.take_length]at hL1
   go_wp2
   go_ret2
   exact ⟨A1,c1,L1,on,rfl,hW,Hd ⟨HX.out.1,fun h=>askSame_parts op a l nm t HNS.out.1 HNS.out.2 (fun i x hx hn=>HX.out.2 h i x (List.getElem?_eq_some_iff.1 hx).1 hx hn)⟩,by omega,hB0⟩
theorem names_dot (a:Int) (l:List Ex) (nm:ByteArray) (t:Tm) (ih:∀x∈l,NamesC x):NamesC (.mk oDot a l nm t):=by
 rintro x L A c w ⟨Al,cl,y,rfl,hop,ha,hnm,ht,hll,hl⟩ ⟨hsh1,hsh2,hsh3⟩ hLn hA
 have HSH:=Hd (shapeEL_iff.1 hsh3)
 rw[sizeE]at hLn
 have hsE:sizeE (.mk oDot a l nm t)=1+sizeEL l:=by rw[sizeE]
 rw[show NamesPost (.mk oDot a l nm t) L w=NamesPostN (.mk oDot a l nm t) L (1+sizeEL l) w by unfold NamesPost;rw[hsE]]
 clear hsE
 obtain ⟨n0,n1,n2,n3,n4,n5,n6,n7,n8,n9,n10,rfl,-⟩:=ht.eleven
 unfold termOf
 have HB:Hid (Below w.heap.size w (w.alloc (.cells #[.string oDot,.int .i64 a,.slice Al l.length cl,.string nm,n0,n1,n2,n3,n4,n5,n6,n7,n8,n9,n10] 32))):=Hd bnew
 have hsz:(w.alloc (.cells #[.string oDot,.int .i64 a,.slice Al l.length cl,.string nm,n0,n1,n2,n3,n4,n5,n6,n7,n8,n9,n10] 32)).heap.size=w.heap.size+1:=by simp
 have hWz:=hA.on HB.out
 have hl1:l.length=1:=hsh1 rfl
 have hl0:0<l.length:=by omega
 clear hsh1 hsh2
 obtain ⟨bk,off,rfl,hbB,hrd⟩:=hl.resolve_left (fun h=>by rw[h]at hl0;simp at hl0)
 obtain ⟨x0,hx0⟩:∃x,l[0]?=some x:=⟨_,List.getElem?_eq_getElem hl0⟩
 obtain ⟨v0,hv0,hvd0⟩:=RdEL.iff.1 hrd 0 x0 hx0
 obtain ⟨op0,a0,l0,nm0,t0⟩:=x0
 have f0:(w.alloc (.cells #[.string oDot,.int .i64 a,.slice (some ⟨bk,off,none⟩) l.length cl,.string nm,n0,n1,n2,n3,n4,n5,n6,n7,n8,n9,n10] 32)).cell? ⟨bk,off,none⟩=some (.string op0):=by
  obtain ⟨A9,c9,y9,rfl,-⟩:=hvd0
  have:=hv0 0 _ rfl
  simp only[Nat.zero_mul,Nat.add_zero]at this
  exact (HB.out.cell (p:=⟨bk,off,none⟩) hbB).trans this
 have hbk0:bk<(w.alloc (.cells #[.string oDot,.int .i64 a,.slice (some ⟨bk,off,none⟩) l.length cl,.string nm,n0,n1,n2,n3,n4,n5,n6,n7,n8,n9,n10] 32)).heap.size:=by rw[hsz];omega
 clear v0 hv0 hvd0
 have HX00:=Hd hx0
 have HL1:=Hd hl1
 clear hx0 hl1
 by_cases hself:op0=oSelf
 ·subst hself
  have HWI:=Hd (with_any L A c nm (fun b=>b<(w.alloc (.cells #[.string oDot,.int .i64 a,.slice (some ⟨bk,off,none⟩) l.length cl,.string nm,n0,n1,n2,n3,n4,n5,n6,n7,n8,n9,n10] 32)).heap.size) (w.alloc (.cells #[.string oDot,.int .i64 a,.slice (some ⟨bk,off,none⟩) l.length cl,.string nm,n0,n1,n2,n3,n4,n5,n6,n7,n8,n9,n10] 32)) (fun b h=>h) (by omega) hWz)
  have HF:Hid (∀L',nm∈L'→AskSame (.mk oDot a l nm t) L'):=Hd (fun L' h=>by
   obtain ⟨y,rfl⟩:=List.length_eq_one_iff.1 HL1.out
   have e:=HX00.out
   simp at e
   subst e
   exact askSame_dot a a0 l0 [] nm0 t0 nm t h)
  clear HX00 HL1 HSH ih
  go_enter Tryz.func22,Tryz.ntmps22
  go_wp2_with fail
  refine HWI.out.mono ?_
  rintro e w1 ⟨A2,c2,L2,rfl,g1,g2,g3,g4⟩
  go_wp2
  go_ret2
  exact ⟨A2,c2,L2,true,rfl,g1.more (fun b h=>h.elim (fun h=>Nat.lt_of_lt_of_le h g4.size) (fun h=>h.2)),Hd ⟨fun s h=>(g2.out s).2 (.inr h),fun _=>HF.out _ ((g2.out nm).2 (.inl rfl))⟩,by omega,HB.out.trans (g4.mono HB.out.size)⟩
 ·have es:=neS [115,101,108,102] hself
  clear hself HX00 HL1
  have HNS:Hid (oDot≠oSelf∧oDot≠oField):=Hd ⟨by decide,by decide⟩
  have hz:Below (w.heap.size+1) (w.alloc (.cells #[.string oDot,.int .i64 a,.slice (some ⟨bk,off,none⟩) l.length cl,.string nm,n0,n1,n2,n3,n4,n5,n6,n7,n8,n9,n10] 32)) (w.alloc (.cells #[.string oDot,.int .i64 a,.slice (some ⟨bk,off,none⟩) l.length cl,.string nm,n0,n1,n2,n3,n4,n5,n6,n7,n8,n9,n10] 32)):=Below.refl _ _
  go_enter Tryz.func22,Tryz.ntmps22
  have hzs:=hz.size
  rw[hsz]at hzs
  go_wp2_with fail
  go_loopw [1,7,8] (fun v ov jv wr=>∃(j:Nat) (A1:Option Addr) (c1:Nat) (L1:List ByteArray) (on:Bool),v=.slice A1 L1.length c1∧ov=.bool on∧jv=.int .i64 j∧j≤l.length∧Below (w.heap.size+1) (w.alloc (.cells #[.string oDot,.int .i64 a,.slice (some ⟨bk,off,none⟩) l.length cl,.string nm,n0,n1,n2,n3,n4,n5,n6,n7,n8,n9,n10] 32)) wr∧WordsAt wr (fun b=>b<wr.heap.size) A1 L1∧L1.length≤L.length+sizeEL (l.take j)∧Hid ((∀s∈L,s∈L1)∧(on=true→∀(i:Nat) x,i<j→l[i]?=some x→¬SkipP oDot nm i→AskSame x L1))) (fun _ _ jv _=>l.length-(intOf jv).toNat)
  case atStart=>exact ⟨0,A,c,L,true,rfl,rfl,rfl,by omega,hz,hWz,by omega,Hd ⟨fun s h=>h,fun _ i x h=>absurd h (by omega)⟩⟩
  case round =>
   obtain ⟨j,A1,c1,L1,on,rfl,rfl,rfl,hj,hb,hW,hL1,HX⟩:=hrel
   have hbz:=hb.size
   rw[hsz]at hbz
   have e0:wr.cell? ⟨w.heap.size,0,none⟩=some (.string oDot):=(hb.cell (p:=⟨w.heap.size,0,none⟩) (show w.heap.size<w.heap.size+1 by omega)).trans (by simp[go_sem])
   have e2:wr.cell? ⟨w.heap.size,2,none⟩=some (.slice (some ⟨bk,off,none⟩) l.length cl):=(hb.cell (p:=⟨w.heap.size,2,none⟩) (show w.heap.size<w.heap.size+1 by omega)).trans (by simp[go_sem])
   have e3:wr.cell? ⟨w.heap.size,3,none⟩=some (.string nm):=(hb.cell (p:=⟨w.heap.size,3,none⟩) (show w.heap.size<w.heap.size+1 by omega)).trans (by simp[go_sem])
   have hwl:w.heap.size<wr.heap.size:=by omega
   have hB0:=HB.out.trans (hb.mono (by omega))
   by_cases hlt:j<l.length
   ·by_cases hj1:j=1
    ·have hjb:((j:Int)==1)=true:=by simp;omega
     clear hj1
     have hbB0:=hbB
     obtain ⟨x,hx⟩:∃x,l[j]?=some x:=⟨_,List.getElem?_eq_getElem hlt⟩
     obtain ⟨v,hv,hvd⟩:=RdEL.iff.1 hrd j x hx
     have hv':=hv.keep (fun q hq=>hB0.cell (show q.block<_ by rw[hq];exact hbB))
     have hbk:bk<wr.heap.size:=by omega
     have HZ:=Hd (sizeEL_take hx)
     have hle:=sizeEL_le l (j+1)
     rw[HZ.out]at hle
     have HI:=Hd (ih x (List.mem_of_getElem? hx) v L1 A1 c1 wr (RdE.more hB0.size _ _ (RdE.below hvd hB0)) (HSH.out x (List.mem_of_getElem? hx)) (by omega) hW)
     obtain ⟨c0,c1,c2,c3,c4,c5,c6,c7,c8,c9,c10,c11,c12,c13,c14,rfl,-⟩:=Ex.cells15 hvd
     unfold termOf at HI
     obtain ⟨q0,q1,q2,q3,q4,q5,q6,q7,q8,q9,q10,q11,q12,q13,q14⟩:=lie15 hv'
     have HX0:=Hd hx
     clear hv hvd hv' hrd hx hl ih hle
     go_wp2_with fail
     refine HI.out.mono ?_
     rintro e wz2 ⟨A2,c2,L2,ok,rfl,g1,g2,g3,g4⟩
     have hb2:=hb.trans (g4.mono (by omega))
     have HX2:Hid ((∀s∈L,s∈L2)∧((on&&ok)=true→∀(i:Nat) x,i<j+1→l[i]?=some x→¬SkipP oDot nm i→AskSame x L2)):=Hd ⟨fun s hs=>g2.out.1 s (HX.out.1 s hs),fun hon i x' hi hx' hn=>by
      have hon2:=(Bool.and_eq_true _ _).mp hon
      by_cases hij:i=j
      ·subst hij
       rw[HX0.out]at hx'
       injection hx' with hx'
       subst hx'
       exact g2.out.2 hon2.2
      ·exact (HX.out.2 hon2.1 i x' (by omega) hx' hn).mono g2.out.1⟩
     have hL2:L2.length≤L.length+sizeEL (l.take (j+1)):=by rw[HZ.out];omega
     clear HX0 HX g2 g4 HI HZ
     cases on
     ·go_wp2
      refine ⟨⟨j+1,A2,c2,L2,false,rfl,rfl,rfl,hlt,hb2,g1,hL2,HX2⟩,?_⟩
      simp[intOf]
      omega
     ·go_wp2
      refine ⟨⟨j+1,A2,c2,L2,ok,rfl,rfl,rfl,hlt,hb2,g1,hL2,HX2⟩,?_⟩
      simp[intOf]
      omega
    ·have hjb:((j:Int)==1)=false:=by simp;omega
     have hbB0:=hbB
     obtain ⟨x,hx⟩:∃x,l[j]?=some x:=⟨_,List.getElem?_eq_getElem hlt⟩
     obtain ⟨v,hv,hvd⟩:=RdEL.iff.1 hrd j x hx
     have hv':=hv.keep (fun q hq=>hB0.cell (show q.block<_ by rw[hq];exact hbB))
     have hbk:bk<wr.heap.size:=by omega
     have HZ:=Hd (sizeEL_take hx)
     have hle:=sizeEL_le l (j+1)
     rw[HZ.out]at hle
     have HI:=Hd (ih x (List.mem_of_getElem? hx) v L1 A1 c1 wr (RdE.more hB0.size _ _ (RdE.below hvd hB0)) (HSH.out x (List.mem_of_getElem? hx)) (by omega) hW)
     obtain ⟨c0,c1,c2,c3,c4,c5,c6,c7,c8,c9,c10,c11,c12,c13,c14,rfl,-⟩:=Ex.cells15 hvd
     unfold termOf at HI
     obtain ⟨q0,q1,q2,q3,q4,q5,q6,q7,q8,q9,q10,q11,q12,q13,q14⟩:=lie15 hv'
     have HX0:=Hd hx
     clear hv hvd hv' hrd hx hl ih hle
     go_wp2_with fail
     refine HI.out.mono ?_
     rintro e wz2 ⟨A2,c2,L2,ok,rfl,g1,g2,g3,g4⟩
     have hb2:=hb.trans (g4.mono (by omega))
     have HX2:Hid ((∀s∈L,s∈L2)∧((on&&ok)=true→∀(i:Nat) x,i<j+1→l[i]?=some x→¬SkipP oDot nm i→AskSame x L2)):=Hd ⟨fun s hs=>g2.out.1 s (HX.out.1 s hs),fun hon i x' hi hx' hn=>by
      have hon2:=(Bool.and_eq_true _ _).mp hon
      by_cases hij:i=j
      ·subst hij
       rw[HX0.out]at hx'
       injection hx' with hx'
       subst hx'
       exact g2.out.2 hon2.2
      ·exact (HX.out.2 hon2.1 i x' (by omega) hx' hn).mono g2.out.1⟩
     have hL2:L2.length≤L.length+sizeEL (l.take (j+1)):=by rw[HZ.out];omega
     clear HX0 HX g2 g4 HI HZ
     cases on
     ·go_wp2
      refine ⟨⟨j+1,A2,c2,L2,false,rfl,rfl,rfl,hlt,hb2,g1,hL2,HX2⟩,?_⟩
      simp[intOf]
      omega
     ·go_wp2
      refine ⟨⟨j+1,A2,c2,L2,ok,rfl,rfl,rfl,hlt,hb2,g1,hL2,HX2⟩,?_⟩
      simp[intOf]
      omega
   ·obtain rfl:j=l.length:=by omega
    rw[List.take_length]at hL1
    go_wp2
    go_ret2
    exact ⟨A1,c1,L1,on,rfl,hW,Hd ⟨HX.out.1,fun h=>askSame_parts oDot a l nm t HNS.out.1 HNS.out.2 (fun i x hx hn=>HX.out.2 h i x (List.getElem?_eq_some_iff.1 hx).1 hx hn)⟩,by omega,hB0⟩
theorem names_at_a (a:Int) (l:List Ex) (nm:ByteArray) (t:Tm) (ih:∀x∈l,NamesC x) (op0:ByteArray) (a0:Int) (l0:List Ex) (nm0:ByteArray) (t0:Tm) (hx0:l[0]?=some (.mk op0 a0 l0 nm0 t0)) (hself:op0≠oSelf):NamesC (.mk oAt a l nm t):=by
 rintro x L A c w ⟨Al,cl,y,rfl,hop,ha,hnm,ht,hll,hl⟩ ⟨hsh1,hsh2,hsh3⟩ hLn hA
 have HSH:=Hd (shapeEL_iff.1 hsh3)
 rw[sizeE]at hLn
 have hsE:sizeE (.mk oAt a l nm t)=1+sizeEL l:=by rw[sizeE]
 rw[show NamesPost (.mk oAt a l nm t) L w=NamesPostN (.mk oAt a l nm t) L (1+sizeEL l) w by unfold NamesPost;rw[hsE]]
 clear hsE
 obtain ⟨n0,n1,n2,n3,n4,n5,n6,n7,n8,n9,n10,rfl,-⟩:=ht.eleven
 unfold termOf
 have HB:Hid (Below w.heap.size w (w.alloc (.cells #[.string oAt,.int .i64 a,.slice Al l.length cl,.string nm,n0,n1,n2,n3,n4,n5,n6,n7,n8,n9,n10] 32))):=Hd bnew
 have hsz:(w.alloc (.cells #[.string oAt,.int .i64 a,.slice Al l.length cl,.string nm,n0,n1,n2,n3,n4,n5,n6,n7,n8,n9,n10] 32)).heap.size=w.heap.size+1:=by simp
 have hWz:=hA.on HB.out
 have hl1:l.length=2:=hsh2 rfl
 have hl0:0<l.length:=by omega
 have hl01:1<l.length:=by omega
 clear hsh1 hsh2
 obtain ⟨bk,off,rfl,hbB,hrd⟩:=hl.resolve_left (fun h=>by rw[h]at hl0;simp at hl0)
 obtain ⟨v0,hv0,hvd0⟩:=RdEL.iff.1 hrd 0 _ hx0
 have f0:(w.alloc (.cells #[.string oAt,.int .i64 a,.slice (some ⟨bk,off,none⟩) l.length cl,.string nm,n0,n1,n2,n3,n4,n5,n6,n7,n8,n9,n10] 32)).cell? ⟨bk,off,none⟩=some (.string op0):=by
  obtain ⟨A9,c9,y9,rfl,-⟩:=hvd0
  have:=hv0 0 _ rfl
  simp only[Nat.zero_mul,Nat.add_zero]at this
  exact (HB.out.cell (p:=⟨bk,off,none⟩) hbB).trans this
 have hbk0:bk<(w.alloc (.cells #[.string oAt,.int .i64 a,.slice (some ⟨bk,off,none⟩) l.length cl,.string nm,n0,n1,n2,n3,n4,n5,n6,n7,n8,n9,n10] 32)).heap.size:=by rw[hsz];omega
 clear v0 hv0 hvd0
 have HX00:=Hd hx0
 have HL1:=Hd hl1
 clear hl1
 have HNS:Hid (oAt≠oSelf∧oAt≠oField):=Hd ⟨by decide,by decide⟩
 have es:=neS [115,101,108,102] hself
 clear hself HX00 HL1 hx0
 have hz:Below (w.heap.size+1) (w.alloc (.cells #[.string oAt,.int .i64 a,.slice (some ⟨bk,off,none⟩) l.length cl,.string nm,n0,n1,n2,n3,n4,n5,n6,n7,n8,n9,n10] 32)) (w.alloc (.cells #[.string oAt,.int .i64 a,.slice (some ⟨bk,off,none⟩) l.length cl,.string nm,n0,n1,n2,n3,n4,n5,n6,n7,n8,n9,n10] 32)):=Below.refl _ _
 go_enter Tryz.func22,Tryz.ntmps22
 have hzs:=hz.size
 rw[hsz]at hzs
 go_wp2_with fail
 go_loopw [1,7,8] (fun v ov jv wr=>∃(j:Nat) (A1:Option Addr) (c1:Nat) (L1:List ByteArray) (on:Bool),v=.slice A1 L1.length c1∧ov=.bool on∧jv=.int .i64 j∧j≤l.length∧Below (w.heap.size+1) (w.alloc (.cells #[.string oAt,.int .i64 a,.slice (some ⟨bk,off,none⟩) l.length cl,.string nm,n0,n1,n2,n3,n4,n5,n6,n7,n8,n9,n10] 32)) wr∧WordsAt wr (fun b=>b<wr.heap.size) A1 L1∧L1.length≤L.length+sizeEL (l.take j)∧Hid ((∀s∈L,s∈L1)∧(on=true→∀(i:Nat) x,i<j→l[i]?=some x→¬SkipP oAt nm i→AskSame x L1))) (fun _ _ jv _=>l.length-(intOf jv).toNat)
 case atStart=>exact ⟨0,A,c,L,true,rfl,rfl,rfl,by omega,hz,hWz,by omega,Hd ⟨fun s h=>h,fun _ i x h=>absurd h (by omega)⟩⟩
 case round =>
  obtain ⟨j,A1,c1,L1,on,rfl,rfl,rfl,hj,hb,hW,hL1,HX⟩:=hrel
  have hbz:=hb.size
  rw[hsz]at hbz
  have e0:wr.cell? ⟨w.heap.size,0,none⟩=some (.string oAt):=(hb.cell (p:=⟨w.heap.size,0,none⟩) (show w.heap.size<w.heap.size+1 by omega)).trans (by simp[go_sem])
  have e2:wr.cell? ⟨w.heap.size,2,none⟩=some (.slice (some ⟨bk,off,none⟩) l.length cl):=(hb.cell (p:=⟨w.heap.size,2,none⟩) (show w.heap.size<w.heap.size+1 by omega)).trans (by simp[go_sem])
  have e3:wr.cell? ⟨w.heap.size,3,none⟩=some (.string nm):=(hb.cell (p:=⟨w.heap.size,3,none⟩) (show w.heap.size<w.heap.size+1 by omega)).trans (by simp[go_sem])
  have hwl:w.heap.size<wr.heap.size:=by omega
  have hB0:=HB.out.trans (hb.mono (by omega))
  by_cases hlt:j<l.length
  ·by_cases hj1:j=1
   ·have hjb:((j:Int)==1)=true:=by simp;omega
    clear hj1
    have hbB0:=hbB
    obtain ⟨x,hx⟩:∃x,l[j]?=some x:=⟨_,List.getElem?_eq_getElem hlt⟩
    obtain ⟨v,hv,hvd⟩:=RdEL.iff.1 hrd j x hx
    have hv':=hv.keep (fun q hq=>hB0.cell (show q.block<_ by rw[hq];exact hbB))
    have hbk:bk<wr.heap.size:=by omega
    have HZ:=Hd (sizeEL_take hx)
    have hle:=sizeEL_le l (j+1)
    rw[HZ.out]at hle
    have HI:=Hd (ih x (List.mem_of_getElem? hx) v L1 A1 c1 wr (RdE.more hB0.size _ _ (RdE.below hvd hB0)) (HSH.out x (List.mem_of_getElem? hx)) (by omega) hW)
    obtain ⟨c0,c1,c2,c3,c4,c5,c6,c7,c8,c9,c10,c11,c12,c13,c14,rfl,-⟩:=Ex.cells15 hvd
    unfold termOf at HI
    obtain ⟨q0,q1,q2,q3,q4,q5,q6,q7,q8,q9,q10,q11,q12,q13,q14⟩:=lie15 hv'
    have HX0:=Hd hx
    clear hv hvd hv' hrd hx hl ih hle
    go_wp2_with fail
    refine HI.out.mono ?_
    rintro e wz2 ⟨A2,c2,L2,ok,rfl,g1,g2,g3,g4⟩
    have hb2:=hb.trans (g4.mono (by omega))
    have HX2:Hid ((∀s∈L,s∈L2)∧((on&&ok)=true→∀(i:Nat) x,i<j+1→l[i]?=some x→¬SkipP oAt nm i→AskSame x L2)):=Hd ⟨fun s hs=>g2.out.1 s (HX.out.1 s hs),fun hon i x' hi hx' hn=>by
     have hon2:=(Bool.and_eq_true _ _).mp hon
     by_cases hij:i=j
     ·subst hij
      rw[HX0.out]at hx'
      injection hx' with hx'
      subst hx'
      exact g2.out.2 hon2.2
     ·exact (HX.out.2 hon2.1 i x' (by omega) hx' hn).mono g2.out.1⟩
    have hL2:L2.length≤L.length+sizeEL (l.take (j+1)):=by rw[HZ.out];omega
    clear HX0 HX g2 g4 HI HZ
    cases on
    ·go_wp2
     refine ⟨⟨j+1,A2,c2,L2,false,rfl,rfl,rfl,hlt,hb2,g1,hL2,HX2⟩,?_⟩
     simp[intOf]
     omega
    ·go_wp2
     refine ⟨⟨j+1,A2,c2,L2,ok,rfl,rfl,rfl,hlt,hb2,g1,hL2,HX2⟩,?_⟩
     simp[intOf]
     omega
   ·have hjb:((j:Int)==1)=false:=by simp;omega
    have hbB0:=hbB
    obtain ⟨x,hx⟩:∃x,l[j]?=some x:=⟨_,List.getElem?_eq_getElem hlt⟩
    obtain ⟨v,hv,hvd⟩:=RdEL.iff.1 hrd j x hx
    have hv':=hv.keep (fun q hq=>hB0.cell (show q.block<_ by rw[hq];exact hbB))
    have hbk:bk<wr.heap.size:=by omega
    have HZ:=Hd (sizeEL_take hx)
    have hle:=sizeEL_le l (j+1)
    rw[HZ.out]at hle
    have HI:=Hd (ih x (List.mem_of_getElem? hx) v L1 A1 c1 wr (RdE.more hB0.size _ _ (RdE.below hvd hB0)) (HSH.out x (List.mem_of_getElem? hx)) (by omega) hW)
    obtain ⟨c0,c1,c2,c3,c4,c5,c6,c7,c8,c9,c10,c11,c12,c13,c14,rfl,-⟩:=Ex.cells15 hvd
    unfold termOf at HI
    obtain ⟨q0,q1,q2,q3,q4,q5,q6,q7,q8,q9,q10,q11,q12,q13,q14⟩:=lie15 hv'
    have HX0:=Hd hx
    clear hv hvd hv' hrd hx hl ih hle
    go_wp2_with fail
    refine HI.out.mono ?_
    rintro e wz2 ⟨A2,c2,L2,ok,rfl,g1,g2,g3,g4⟩
    have hb2:=hb.trans (g4.mono (by omega))
    have HX2:Hid ((∀s∈L,s∈L2)∧((on&&ok)=true→∀(i:Nat) x,i<j+1→l[i]?=some x→¬SkipP oAt nm i→AskSame x L2)):=Hd ⟨fun s hs=>g2.out.1 s (HX.out.1 s hs),fun hon i x' hi hx' hn=>by
     have hon2:=(Bool.and_eq_true _ _).mp hon
     by_cases hij:i=j
     ·subst hij
      rw[HX0.out]at hx'
      injection hx' with hx'
      subst hx'
      exact g2.out.2 hon2.2
     ·exact (HX.out.2 hon2.1 i x' (by omega) hx' hn).mono g2.out.1⟩
    have hL2:L2.length≤L.length+sizeEL (l.take (j+1)):=by rw[HZ.out];omega
    clear HX0 HX g2 g4 HI HZ
    cases on
    ·go_wp2
     refine ⟨⟨j+1,A2,c2,L2,false,rfl,rfl,rfl,hlt,hb2,g1,hL2,HX2⟩,?_⟩
     simp[intOf]
     omega
    ·go_wp2
     refine ⟨⟨j+1,A2,c2,L2,ok,rfl,rfl,rfl,hlt,hb2,g1,hL2,HX2⟩,?_⟩
     simp[intOf]
     omega
  ·obtain rfl:j=l.length:=by omega
   rw[List.take_length]at hL1
   go_wp2
   go_ret2
   exact ⟨A1,c1,L1,on,rfl,hW,Hd ⟨HX.out.1,fun h=>askSame_parts oAt a l nm t HNS.out.1 HNS.out.2 (fun i x hx hn=>HX.out.2 h i x (List.getElem?_eq_some_iff.1 hx).1 hx hn)⟩,by omega,hB0⟩
end Go.Proofs.YtbemeapjeipjlaaGreatDoor
