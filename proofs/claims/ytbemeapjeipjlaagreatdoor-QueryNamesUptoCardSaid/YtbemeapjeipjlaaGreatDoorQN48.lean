/- Walks of the reference's query: names of at (b). -/
import Derived.Test.YtbemeapjeipjlaaGreatDoorQN47
set_option linter.unusedVariables false
set_option linter.unusedSimpArgs false
namespace Go.Proofs.YtbemeapjeipjlaaGreatDoor
open Go Go.RowKit
set_option maxRecDepth 100000
set_option maxHeartbeats 8000000
theorem names_at_b (a:Int) (l:List Ex) (nm:ByteArray) (t:Tm) (ih:∀x∈l,NamesC x) (a0:Int) (l0:List Ex) (nm0:ByteArray) (t0:Tm) (hx0:l[0]?=some (.mk oSelf a0 l0 nm0 t0)) (a1:Int) (l1:List Ex) (nm1:ByteArray) (k1:Int) (b1:Bool) (i1:Int) (f1:Nat) (s1:ByteArray) (bs1:List UInt8) (r1:Int) (tl1:List Tm) (td1:List (ByteArray×Tm)) (c1:ByteArray) (v1:Int) (op1:ByteArray) (hx1:l[1]?=some (.mk op1 a1 l1 nm1 (.mk k1 b1 i1 f1 s1 bs1 r1 tl1 td1 c1 v1))) (hv:op1≠oValue):NamesC (.mk oAt a l nm t):=by
 rintro x L A c w ⟨Al,cl,y,rfl,hop,ha,hnm,ht,hll,hl⟩ ⟨hsh1,hsh2,hsh3⟩ hLn hA
 have HSH:=Hd (shapeEL_iff.1 hsh3)
 rw[sizeE]at hLn
 have hsE:sizeE (.mk oAt a l nm t)=1+sizeEL l:=by rw[sizeE]
 rw[show NamesPost (.mk oAt a l nm t) L w=NamesPostN (.mk oAt a l nm t) L (1+sizeEL l) w by unfold NamesPost;rw[hsE]]
 clear hsE
 obtain ⟨n0,n1,n2,n3,n4,n5,n6,n7,n8,n9,n10,rfl,-⟩:=ht.eleven
 unfold termOf
 have HB:Hid (Below w.heap.size w (w.alloc (.cells #[.string oAt,.int .i64 a,.slice Al l.length cl,.string nm,n0,n1,n2,n3,n4,n5,n6,n7,n8,n9,n10] 32))):=Hd bnew
 have hsz:(w.alloc (.cells #[.string oAt,.int .i64 a,.slice Al l.length cl,.string nm,n0,n1,n2,n3,n4,n5,n6,n7,n8,n9,n10] 32)).heap.size=w.heap.size+1:=by simp
 have hWz:=hA.on HB.out
 have hl1:l.length=2:=hsh2 rfl
 have hl0:0<l.length:=by omega
 have hl01:1<l.length:=by omega
 clear hsh1 hsh2
 obtain ⟨bk,off,rfl,hbB,hrd⟩:=hl.resolve_left (fun h=>by rw[h]at hl0;simp at hl0)
 obtain ⟨v0,hv0,hvd0⟩:=RdEL.iff.1 hrd 0 _ hx0
 have f0:(w.alloc (.cells #[.string oAt,.int .i64 a,.slice (some ⟨bk,off,none⟩) l.length cl,.string nm,n0,n1,n2,n3,n4,n5,n6,n7,n8,n9,n10] 32)).cell? ⟨bk,off,none⟩=some (.string oSelf):=by
  obtain ⟨A9,c9,y9,rfl,-⟩:=hvd0
  have:=hv0 0 _ rfl
  simp only[Nat.zero_mul,Nat.add_zero]at this
  exact (HB.out.cell (p:=⟨bk,off,none⟩) hbB).trans this
 have hbk0:bk<(w.alloc (.cells #[.string oAt,.int .i64 a,.slice (some ⟨bk,off,none⟩) l.length cl,.string nm,n0,n1,n2,n3,n4,n5,n6,n7,n8,n9,n10] 32)).heap.size:=by rw[hsz];omega
 clear v0 hv0 hvd0
 have HX00:=Hd hx0
 have HL1:=Hd hl1
 clear hl1
 have HNS:Hid (oAt≠oSelf∧oAt≠oField):=Hd ⟨by decide,by decide⟩
 obtain ⟨v1',hv1,hvd1⟩:=RdEL.iff.1 hrd 1 _ hx1
 have hv1':=hv1.keep (fun q hq=>HB.out.cell (show q.block<_ by rw[hq];exact hbB))
 have HX1:=Hd hx1
 obtain ⟨Al1,cl1,y1,rfl,hop1,-,hnm1,ht1,-⟩:=hvd1
 obtain ⟨Ab1,cb1,At1,ct1,Ad1,cd1,rfl,hk1,hi1,hs1,-⟩:=ht1
 have o0:=fun (W:World) (a:Addr) (m:Mode) (x:Nat)=>run_store Tryz.prog W a (.float .f64 x) m rfl
 obtain ⟨q0,q1,q2,q3,q4,q5,q6,q7,q8,q9,q10,q11,q12,q13,q14⟩:=lie15 hv1'
 simp only[Nat.one_mul]at *
 have hzc:Below (w.heap.size+1) (w.alloc (.cells #[.string oAt,.int .i64 a,.slice (some ⟨bk,off,none⟩) l.length cl,.string nm,n0,n1,n2,n3,n4,n5,n6,n7,n8,n9,n10] 32)) ((w.alloc (.cells #[.string oAt,.int .i64 a,.slice (some ⟨bk,off,none⟩) l.length cl,.string nm,n0,n1,n2,n3,n4,n5,n6,n7,n8,n9,n10] 32)).alloc (.cells #[.string op1,.int .i64 a1,.slice Al1 l1.length cl1,.string nm1,.int .i64 k1,.bool b1,.int .i64 i1,.float .f64 f1,.string s1,.slice Ab1 bs1.length cb1,.int .u64 r1,.slice At1 tl1.length ct1,.slice Ad1 td1.length cd1,.string c1,.int .i64 v1] 32)):=(Below.refl _ _).alloc (by rw[hsz];omega) _
 have hWc:=hWz.on (show Below (w.alloc (.cells #[.string oAt,.int .i64 a,.slice (some ⟨bk,off,none⟩) l.length cl,.string nm,n0,n1,n2,n3,n4,n5,n6,n7,n8,n9,n10] 32)).heap.size (w.alloc (.cells #[.string oAt,.int .i64 a,.slice (some ⟨bk,off,none⟩) l.length cl,.string nm,n0,n1,n2,n3,n4,n5,n6,n7,n8,n9,n10] 32)) ((w.alloc (.cells #[.string oAt,.int .i64 a,.slice (some ⟨bk,off,none⟩) l.length cl,.string nm,n0,n1,n2,n3,n4,n5,n6,n7,n8,n9,n10] 32)).alloc (.cells #[.string op1,.int .i64 a1,.slice Al1 l1.length cl1,.string nm1,.int .i64 k1,.bool b1,.int .i64 i1,.float .f64 f1,.string s1,.slice Ab1 bs1.length cb1,.int .u64 r1,.slice At1 tl1.length ct1,.slice Ad1 td1.length cd1,.string c1,.int .i64 v1] 32)) from bnew)
 have hszc:((w.alloc (.cells #[.string oAt,.int .i64 a,.slice (some ⟨bk,off,none⟩) l.length cl,.string nm,n0,n1,n2,n3,n4,n5,n6,n7,n8,n9,n10] 32)).alloc (.cells #[.string op1,.int .i64 a1,.slice Al1 l1.length cl1,.string nm1,.int .i64 k1,.bool b1,.int .i64 i1,.float .f64 f1,.string s1,.slice Ab1 bs1.length cb1,.int .u64 r1,.slice At1 tl1.length ct1,.slice Ad1 td1.length cd1,.string c1,.int .i64 v1] 32)).heap.size=w.heap.size+2:=by simp
 have ev:=neS [118,97,108,117,101] hv
 clear HX00 HL1 hx0 HX1 hx1 hv1 hv1'
 clear hv
 go_enter Tryz.func22,Tryz.ntmps22
 go_wp2_with fail
 have hz:=hzc
 clear hWz
 have hWz:=hWc
 clear q0 q1 q2 q3 q4 q5 q6 q7 q8 q9 q10 q11 q12 q13 q14
 have hzs:=hz.size
 rw[hsz]at hzs
 go_loopw [1,7,8] (fun v ov jv wr=>∃(j:Nat) (A1:Option Addr) (c1:Nat) (L1:List ByteArray) (on:Bool),v=.slice A1 L1.length c1∧ov=.bool on∧jv=.int .i64 j∧j≤l.length∧Below (w.heap.size+1) (w.alloc (.cells #[.string oAt,.int .i64 a,.slice (some ⟨bk,off,none⟩) l.length cl,.string nm,n0,n1,n2,n3,n4,n5,n6,n7,n8,n9,n10] 32)) wr∧WordsAt wr (fun b=>b<wr.heap.size) A1 L1∧L1.length≤L.length+sizeEL (l.take j)∧Hid ((∀s∈L,s∈L1)∧(on=true→∀(i:Nat) x,i<j→l[i]?=some x→¬SkipP oAt nm i→AskSame x L1))) (fun _ _ jv _=>l.length-(intOf jv).toNat)
 case atStart=>exact ⟨0,A,c,L,true,rfl,rfl,rfl,by omega,hz,hWz,by omega,Hd ⟨fun s h=>h,fun _ i x h=>absurd h (by omega)⟩⟩
 case round =>
  obtain ⟨j,A1,c1,L1,on,rfl,rfl,rfl,hj,hb,hW,hL1,HX⟩:=hrel
  have hbz:=hb.size
  rw[hsz]at hbz
  have e0:wr.cell? ⟨w.heap.size,0,none⟩=some (.string oAt):=(hb.cell (p:=⟨w.heap.size,0,none⟩) (show w.heap.size<w.heap.size+1 by omega)).trans (by simp[go_sem])
  have e2:wr.cell? ⟨w.heap.size,2,none⟩=some (.slice (some ⟨bk,off,none⟩) l.length cl):=(hb.cell (p:=⟨w.heap.size,2,none⟩) (show w.heap.size<w.heap.size+1 by omega)).trans (by simp[go_sem])
  have e3:wr.cell? ⟨w.heap.size,3,none⟩=some (.string nm):=(hb.cell (p:=⟨w.heap.size,3,none⟩) (show w.heap.size<w.heap.size+1 by omega)).trans (by simp[go_sem])
  have hwl:w.heap.size<wr.heap.size:=by omega
  have hB0:=HB.out.trans (hb.mono (by omega))
  by_cases hlt:j<l.length
  ·by_cases hj1:j=1
   ·have hjb:((j:Int)==1)=true:=by simp;omega
    clear hj1
    have hbB0:=hbB
    obtain ⟨x,hx⟩:∃x,l[j]?=some x:=⟨_,List.getElem?_eq_getElem hlt⟩
    obtain ⟨v,hv,hvd⟩:=RdEL.iff.1 hrd j x hx
    have hv':=hv.keep (fun q hq=>hB0.cell (show q.block<_ by rw[hq];exact hbB))
    have hbk:bk<wr.heap.size:=by omega
    have HZ:=Hd (sizeEL_take hx)
    have hle:=sizeEL_le l (j+1)
    rw[HZ.out]at hle
    have HI:=Hd (ih x (List.mem_of_getElem? hx) v L1 A1 c1 wr (RdE.more hB0.size _ _ (RdE.below hvd hB0)) (HSH.out x (List.mem_of_getElem? hx)) (by omega) hW)
    obtain ⟨c0,c1,c2,c3,c4,c5,c6,c7,c8,c9,c10,c11,c12,c13,c14,rfl,-⟩:=Ex.cells15 hvd
    unfold termOf at HI
    obtain ⟨q0,q1,q2,q3,q4,q5,q6,q7,q8,q9,q10,q11,q12,q13,q14⟩:=lie15 hv'
    have HX0:=Hd hx
    clear hv hvd hv' hrd hx hl ih hle
    go_wp2_with fail
    refine HI.out.mono ?_
    rintro e wz2 ⟨A2,c2,L2,ok,rfl,g1,g2,g3,g4⟩
    have hb2:=hb.trans (g4.mono (by omega))
    have HX2:Hid ((∀s∈L,s∈L2)∧((on&&ok)=true→∀(i:Nat) x,i<j+1→l[i]?=some x→¬SkipP oAt nm i→AskSame x L2)):=Hd ⟨fun s hs=>g2.out.1 s (HX.out.1 s hs),fun hon i x' hi hx' hn=>by
     have hon2:=(Bool.and_eq_true _ _).mp hon
     by_cases hij:i=j
     ·subst hij
      rw[HX0.out]at hx'
      injection hx' with hx'
      subst hx'
      exact g2.out.2 hon2.2
     ·exact (HX.out.2 hon2.1 i x' (by omega) hx' hn).mono g2.out.1⟩
    have hL2:L2.length≤L.length+sizeEL (l.take (j+1)):=by rw[HZ.out];omega
    clear HX0 HX g2 g4 HI HZ
    cases on
    ·go_wp2
     refine ⟨⟨j+1,A2,c2,L2,false,rfl,rfl,rfl,hlt,hb2,g1,hL2,HX2⟩,?_⟩
     simp[intOf]
     omega
    ·go_wp2
     refine ⟨⟨j+1,A2,c2,L2,ok,rfl,rfl,rfl,hlt,hb2,g1,hL2,HX2⟩,?_⟩
     simp[intOf]
     omega
   ·have hjb:((j:Int)==1)=false:=by simp;omega
    have hbB0:=hbB
    obtain ⟨x,hx⟩:∃x,l[j]?=some x:=⟨_,List.getElem?_eq_getElem hlt⟩
    obtain ⟨v,hv,hvd⟩:=RdEL.iff.1 hrd j x hx
    have hv':=hv.keep (fun q hq=>hB0.cell (show q.block<_ by rw[hq];exact hbB))
    have hbk:bk<wr.heap.size:=by omega
    have HZ:=Hd (sizeEL_take hx)
    have hle:=sizeEL_le l (j+1)
    rw[HZ.out]at hle
    have HI:=Hd (ih x (List.mem_of_getElem? hx) v L1 A1 c1 wr (RdE.more hB0.size _ _ (RdE.below hvd hB0)) (HSH.out x (List.mem_of_getElem? hx)) (by omega) hW)
    obtain ⟨c0,c1,c2,c3,c4,c5,c6,c7,c8,c9,c10,c11,c12,c13,c14,rfl,-⟩:=Ex.cells15 hvd
    unfold termOf at HI
    obtain ⟨q0,q1,q2,q3,q4,q5,q6,q7,q8,q9,q10,q11,q12,q13,q14⟩:=lie15 hv'
    have HX0:=Hd hx
    clear hv hvd hv' hrd hx hl ih hle
    go_wp2_with fail
    refine HI.out.mono ?_
    rintro e wz2 ⟨A2,c2,L2,ok,rfl,g1,g2,g3,g4⟩
    have hb2:=hb.trans (g4.mono (by omega))
    have HX2:Hid ((∀s∈L,s∈L2)∧((on&&ok)=true→∀(i:Nat) x,i<j+1→l[i]?=some x→¬SkipP oAt nm i→AskSame x L2)):=Hd ⟨fun s hs=>g2.out.1 s (HX.out.1 s hs),fun hon i x' hi hx' hn=>by
     have hon2:=(Bool.and_eq_true _ _).mp hon
     by_cases hij:i=j
     ·subst hij
      rw[HX0.out]at hx'
      injection hx' with hx'
      subst hx'
      exact g2.out.2 hon2.2
     ·exact (HX.out.2 hon2.1 i x' (by omega) hx' hn).mono g2.out.1⟩
    have hL2:L2.length≤L.length+sizeEL (l.take (j+1)):=by rw[HZ.out];omega
    clear HX0 HX g2 g4 HI HZ
    cases on
    ·go_wp2
     refine ⟨⟨j+1,A2,c2,L2,false,rfl,rfl,rfl,hlt,hb2,g1,hL2,HX2⟩,?_⟩
     simp[intOf]
     omega
    ·go_wp2
     refine ⟨⟨j+1,A2,c2,L2,ok,rfl,rfl,rfl,hlt,hb2,g1,hL2,HX2⟩,?_⟩
     simp[intOf]
     omega
  ·obtain rfl:j=l.length:=by omega
   rw[List.take_length]at hL1
   go_wp2
   go_ret2
   exact ⟨A1,c1,L1,on,rfl,hW,Hd ⟨HX.out.1,fun h=>askSame_parts oAt a l nm t HNS.out.1 HNS.out.2 (fun i x hx hn=>HX.out.2 h i x (List.getElem?_eq_some_iff.1 hx).1 hx hn)⟩,by omega,hB0⟩
theorem names_at_c (a:Int) (l:List Ex) (nm:ByteArray) (t:Tm) (ih:∀x∈l,NamesC x) (a0:Int) (l0:List Ex) (nm0:ByteArray) (t0:Tm) (hx0:l[0]?=some (.mk oSelf a0 l0 nm0 t0)) (a1:Int) (l1:List Ex) (nm1:ByteArray) (k1:Int) (b1:Bool) (i1:Int) (f1:Nat) (s1:ByteArray) (bs1:List UInt8) (r1:Int) (tl1:List Tm) (td1:List (ByteArray×Tm)) (c1:ByteArray) (v1:Int) (hx1:l[1]?=some (.mk oValue a1 l1 nm1 (.mk k1 b1 i1 f1 s1 bs1 r1 tl1 td1 c1 v1))) (hk5:k1≠5):NamesC (.mk oAt a l nm t):=by
 rintro x L A c w ⟨Al,cl,y,rfl,hop,ha,hnm,ht,hll,hl⟩ ⟨hsh1,hsh2,hsh3⟩ hLn hA
 have HSH:=Hd (shapeEL_iff.1 hsh3)
 rw[sizeE]at hLn
 have hsE:sizeE (.mk oAt a l nm t)=1+sizeEL l:=by rw[sizeE]
 rw[show NamesPost (.mk oAt a l nm t) L w=NamesPostN (.mk oAt a l nm t) L (1+sizeEL l) w by unfold NamesPost;rw[hsE]]
 clear hsE
 obtain ⟨n0,n1,n2,n3,n4,n5,n6,n7,n8,n9,n10,rfl,-⟩:=ht.eleven
 unfold termOf
 have HB:Hid (Below w.heap.size w (w.alloc (.cells #[.string oAt,.int .i64 a,.slice Al l.length cl,.string nm,n0,n1,n2,n3,n4,n5,n6,n7,n8,n9,n10] 32))):=Hd bnew
 have hsz:(w.alloc (.cells #[.string oAt,.int .i64 a,.slice Al l.length cl,.string nm,n0,n1,n2,n3,n4,n5,n6,n7,n8,n9,n10] 32)).heap.size=w.heap.size+1:=by simp
 have hWz:=hA.on HB.out
 have hl1:l.length=2:=hsh2 rfl
 have hl0:0<l.length:=by omega
 have hl01:1<l.length:=by omega
 clear hsh1 hsh2
 obtain ⟨bk,off,rfl,hbB,hrd⟩:=hl.resolve_left (fun h=>by rw[h]at hl0;simp at hl0)
 obtain ⟨v0,hv0,hvd0⟩:=RdEL.iff.1 hrd 0 _ hx0
 have f0:(w.alloc (.cells #[.string oAt,.int .i64 a,.slice (some ⟨bk,off,none⟩) l.length cl,.string nm,n0,n1,n2,n3,n4,n5,n6,n7,n8,n9,n10] 32)).cell? ⟨bk,off,none⟩=some (.string oSelf):=by
  obtain ⟨A9,c9,y9,rfl,-⟩:=hvd0
  have:=hv0 0 _ rfl
  simp only[Nat.zero_mul,Nat.add_zero]at this
  exact (HB.out.cell (p:=⟨bk,off,none⟩) hbB).trans this
 have hbk0:bk<(w.alloc (.cells #[.string oAt,.int .i64 a,.slice (some ⟨bk,off,none⟩) l.length cl,.string nm,n0,n1,n2,n3,n4,n5,n6,n7,n8,n9,n10] 32)).heap.size:=by rw[hsz];omega
 clear v0 hv0 hvd0
 have HX00:=Hd hx0
 have HL1:=Hd hl1
 clear hl1
 have HNS:Hid (oAt≠oSelf∧oAt≠oField):=Hd ⟨by decide,by decide⟩
 obtain ⟨v1',hv1,hvd1⟩:=RdEL.iff.1 hrd 1 _ hx1
 have hv1':=hv1.keep (fun q hq=>HB.out.cell (show q.block<_ by rw[hq];exact hbB))
 have HX1:=Hd hx1
 obtain ⟨Al1,cl1,y1,rfl,hop1,-,hnm1,ht1,-⟩:=hvd1
 obtain ⟨Ab1,cb1,At1,ct1,Ad1,cd1,rfl,hk1,hi1,hs1,-⟩:=ht1
 have o0:=fun (W:World) (a:Addr) (m:Mode) (x:Nat)=>run_store Tryz.prog W a (.float .f64 x) m rfl
 obtain ⟨q0,q1,q2,q3,q4,q5,q6,q7,q8,q9,q10,q11,q12,q13,q14⟩:=lie15 hv1'
 simp only[Nat.one_mul]at *
 have hzc:Below (w.heap.size+1) (w.alloc (.cells #[.string oAt,.int .i64 a,.slice (some ⟨bk,off,none⟩) l.length cl,.string nm,n0,n1,n2,n3,n4,n5,n6,n7,n8,n9,n10] 32)) ((w.alloc (.cells #[.string oAt,.int .i64 a,.slice (some ⟨bk,off,none⟩) l.length cl,.string nm,n0,n1,n2,n3,n4,n5,n6,n7,n8,n9,n10] 32)).alloc (.cells #[.string oValue,.int .i64 a1,.slice Al1 l1.length cl1,.string nm1,.int .i64 k1,.bool b1,.int .i64 i1,.float .f64 f1,.string s1,.slice Ab1 bs1.length cb1,.int .u64 r1,.slice At1 tl1.length ct1,.slice Ad1 td1.length cd1,.string c1,.int .i64 v1] 32)):=(Below.refl _ _).alloc (by rw[hsz];omega) _
 have hWc:=hWz.on (show Below (w.alloc (.cells #[.string oAt,.int .i64 a,.slice (some ⟨bk,off,none⟩) l.length cl,.string nm,n0,n1,n2,n3,n4,n5,n6,n7,n8,n9,n10] 32)).heap.size (w.alloc (.cells #[.string oAt,.int .i64 a,.slice (some ⟨bk,off,none⟩) l.length cl,.string nm,n0,n1,n2,n3,n4,n5,n6,n7,n8,n9,n10] 32)) ((w.alloc (.cells #[.string oAt,.int .i64 a,.slice (some ⟨bk,off,none⟩) l.length cl,.string nm,n0,n1,n2,n3,n4,n5,n6,n7,n8,n9,n10] 32)).alloc (.cells #[.string oValue,.int .i64 a1,.slice Al1 l1.length cl1,.string nm1,.int .i64 k1,.bool b1,.int .i64 i1,.float .f64 f1,.string s1,.slice Ab1 bs1.length cb1,.int .u64 r1,.slice At1 tl1.length ct1,.slice Ad1 td1.length cd1,.string c1,.int .i64 v1] 32)) from bnew)
 have hszc:((w.alloc (.cells #[.string oAt,.int .i64 a,.slice (some ⟨bk,off,none⟩) l.length cl,.string nm,n0,n1,n2,n3,n4,n5,n6,n7,n8,n9,n10] 32)).alloc (.cells #[.string oValue,.int .i64 a1,.slice Al1 l1.length cl1,.string nm1,.int .i64 k1,.bool b1,.int .i64 i1,.float .f64 f1,.string s1,.slice Ab1 bs1.length cb1,.int .u64 r1,.slice At1 tl1.length ct1,.slice Ad1 td1.length cd1,.string c1,.int .i64 v1] 32)).heap.size=w.heap.size+2:=by simp
 have hkb:((k1:Int)==5)=false:=by rw[beq_eq_false_iff_ne];exact hk5
 clear HX00 HL1 hx0 HX1 hx1 hv1 hv1'
 clear hk5
 go_enter Tryz.func22,Tryz.ntmps22
 go_wp2_with fail
 have hz:=hzc
 clear hWz
 have hWz:=hWc
 clear q0 q1 q2 q3 q4 q5 q6 q7 q8 q9 q10 q11 q12 q13 q14
 have hzs:=hz.size
 rw[hsz]at hzs
 go_loopw [1,7,8] (fun v ov jv wr=>∃(j:Nat) (A1:Option Addr) (c1:Nat) (L1:List ByteArray) (on:Bool),v=.slice A1 L1.length c1∧ov=.bool on∧jv=.int .i64 j∧j≤l.length∧Below (w.heap.size+1) (w.alloc (.cells #[.string oAt,.int .i64 a,.slice (some ⟨bk,off,none⟩) l.length cl,.string nm,n0,n1,n2,n3,n4,n5,n6,n7,n8,n9,n10] 32)) wr∧WordsAt wr (fun b=>b<wr.heap.size) A1 L1∧L1.length≤L.length+sizeEL (l.take j)∧Hid ((∀s∈L,s∈L1)∧(on=true→∀(i:Nat) x,i<j→l[i]?=some x→¬SkipP oAt nm i→AskSame x L1))) (fun _ _ jv _=>l.length-(intOf jv).toNat)
 case atStart=>exact ⟨0,A,c,L,true,rfl,rfl,rfl,by omega,hz,hWz,by omega,Hd ⟨fun s h=>h,fun _ i x h=>absurd h (by omega)⟩⟩
 case round =>
  obtain ⟨j,A1,c1,L1,on,rfl,rfl,rfl,hj,hb,hW,hL1,HX⟩:=hrel
  have hbz:=hb.size
  rw[hsz]at hbz
  have e0:wr.cell? ⟨w.heap.size,0,none⟩=some (.string oAt):=(hb.cell (p:=⟨w.heap.size,0,none⟩) (show w.heap.size<w.heap.size+1 by omega)).trans (by simp[go_sem])
  have e2:wr.cell? ⟨w.heap.size,2,none⟩=some (.slice (some ⟨bk,off,none⟩) l.length cl):=(hb.cell (p:=⟨w.heap.size,2,none⟩) (show w.heap.size<w.heap.size+1 by omega)).trans (by simp[go_sem])
  have e3:wr.cell? ⟨w.heap.size,3,none⟩=some (.string nm):=(hb.cell (p:=⟨w.heap.size,3,none⟩) (show w.heap.size<w.heap.size+1 by omega)).trans (by simp[go_sem])
  have hwl:w.heap.size<wr.heap.size:=by omega
  have hB0:=HB.out.trans (hb.mono (by omega))
  by_cases hlt:j<l.length
  ·by_cases hj1:j=1
   ·have hjb:((j:Int)==1)=true:=by simp;omega
    clear hj1
    have hbB0:=hbB
    obtain ⟨x,hx⟩:∃x,l[j]?=some x:=⟨_,List.getElem?_eq_getElem hlt⟩
    obtain ⟨v,hv,hvd⟩:=RdEL.iff.1 hrd j x hx
    have hv':=hv.keep (fun q hq=>hB0.cell (show q.block<_ by rw[hq];exact hbB))
    have hbk:bk<wr.heap.size:=by omega
    have HZ:=Hd (sizeEL_take hx)
    have hle:=sizeEL_le l (j+1)
    rw[HZ.out]at hle
    have HI:=Hd (ih x (List.mem_of_getElem? hx) v L1 A1 c1 wr (RdE.more hB0.size _ _ (RdE.below hvd hB0)) (HSH.out x (List.mem_of_getElem? hx)) (by omega) hW)
    obtain ⟨c0,c1,c2,c3,c4,c5,c6,c7,c8,c9,c10,c11,c12,c13,c14,rfl,-⟩:=Ex.cells15 hvd
    unfold termOf at HI
    obtain ⟨q0,q1,q2,q3,q4,q5,q6,q7,q8,q9,q10,q11,q12,q13,q14⟩:=lie15 hv'
    have HX0:=Hd hx
    clear hv hvd hv' hrd hx hl ih hle
    go_wp2_with fail
    refine HI.out.mono ?_
    rintro e wz2 ⟨A2,c2,L2,ok,rfl,g1,g2,g3,g4⟩
    have hb2:=hb.trans (g4.mono (by omega))
    have HX2:Hid ((∀s∈L,s∈L2)∧((on&&ok)=true→∀(i:Nat) x,i<j+1→l[i]?=some x→¬SkipP oAt nm i→AskSame x L2)):=Hd ⟨fun s hs=>g2.out.1 s (HX.out.1 s hs),fun hon i x' hi hx' hn=>by
     have hon2:=(Bool.and_eq_true _ _).mp hon
     by_cases hij:i=j
     ·subst hij
      rw[HX0.out]at hx'
      injection hx' with hx'
      subst hx'
      exact g2.out.2 hon2.2
     ·exact (HX.out.2 hon2.1 i x' (by omega) hx' hn).mono g2.out.1⟩
    have hL2:L2.length≤L.length+sizeEL (l.take (j+1)):=by rw[HZ.out];omega
    clear HX0 HX g2 g4 HI HZ
    cases on
    ·go_wp2
     refine ⟨⟨j+1,A2,c2,L2,false,rfl,rfl,rfl,hlt,hb2,g1,hL2,HX2⟩,?_⟩
     simp[intOf]
     omega
    ·go_wp2
     refine ⟨⟨j+1,A2,c2,L2,ok,rfl,rfl,rfl,hlt,hb2,g1,hL2,HX2⟩,?_⟩
     simp[intOf]
     omega
   ·have hjb:((j:Int)==1)=false:=by simp;omega
    have hbB0:=hbB
    obtain ⟨x,hx⟩:∃x,l[j]?=some x:=⟨_,List.getElem?_eq_getElem hlt⟩
    obtain ⟨v,hv,hvd⟩:=RdEL.iff.1 hrd j x hx
    have hv':=hv.keep (fun q hq=>hB0.cell (show q.block<_ by rw[hq];exact hbB))
    have hbk:bk<wr.heap.size:=by omega
    have HZ:=Hd (sizeEL_take hx)
    have hle:=sizeEL_le l (j+1)
    rw[HZ.out]at hle
    have HI:=Hd (ih x (List.mem_of_getElem? hx) v L1 A1 c1 wr (RdE.more hB0.size _ _ (RdE.below hvd hB0)) (HSH.out x (List.mem_of_getElem? hx)) (by omega) hW)
    obtain ⟨c0,c1,c2,c3,c4,c5,c6,c7,c8,c9,c10,c11,c12,c13,c14,rfl,-⟩:=Ex.cells15 hvd
    unfold termOf at HI
    obtain ⟨q0,q1,q2,q3,q4,q5,q6,q7,q8,q9,q10,q11,q12,q13,q14⟩:=lie15 hv'
    have HX0:=Hd hx
    clear hv hvd hv' hrd hx hl ih hle
    go_wp2_with fail
    refine HI.out.mono ?_
    rintro e wz2 ⟨A2,c2,L2,ok,rfl,g1,g2,g3,g4⟩
    have hb2:=hb.trans (g4.mono (by omega))
    have HX2:Hid ((∀s∈L,s∈L2)∧((on&&ok)=true→∀(i:Nat) x,i<j+1→l[i]?=some x→¬SkipP oAt nm i→AskSame x L2)):=Hd ⟨fun s hs=>g2.out.1 s (HX.out.1 s hs),fun hon i x' hi hx' hn=>by
     have hon2:=(Bool.and_eq_true _ _).mp hon
     by_cases hij:i=j
     ·subst hij
      rw[HX0.out]at hx'
      injection hx' with hx'
      subst hx'
      exact g2.out.2 hon2.2
     ·exact (HX.out.2 hon2.1 i x' (by omega) hx' hn).mono g2.out.1⟩
    have hL2:L2.length≤L.length+sizeEL (l.take (j+1)):=by rw[HZ.out];omega
    clear HX0 HX g2 g4 HI HZ
    cases on
    ·go_wp2
     refine ⟨⟨j+1,A2,c2,L2,false,rfl,rfl,rfl,hlt,hb2,g1,hL2,HX2⟩,?_⟩
     simp[intOf]
     omega
    ·go_wp2
     refine ⟨⟨j+1,A2,c2,L2,ok,rfl,rfl,rfl,hlt,hb2,g1,hL2,HX2⟩,?_⟩
     simp[intOf]
     omega
  ·obtain rfl:j=l.length:=by omega
   rw[List.take_length]at hL1
   go_wp2
   go_ret2
   exact ⟨A1,c1,L1,on,rfl,hW,Hd ⟨HX.out.1,fun h=>askSame_parts oAt a l nm t HNS.out.1 HNS.out.2 (fun i x hx hn=>HX.out.2 h i x (List.getElem?_eq_some_iff.1 hx).1 hx hn)⟩,by omega,hB0⟩
end Go.Proofs.YtbemeapjeipjlaaGreatDoor
