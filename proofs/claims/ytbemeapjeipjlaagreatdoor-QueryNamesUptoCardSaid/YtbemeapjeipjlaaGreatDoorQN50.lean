/- For any expression and two rows of entries, all of bulk at most 1048576: of two dicts that have the same under the names that the expression asks for, it answers the same. The row is proved, then the card. The row is proved, then the card that ties the listed variables to the program's text. No condition. -/
import Derived.Test.YtbemeapjeipjlaaGreatDoorQN11
import Derived.ChangeArms
import Derived.Deep.Slices
import Derived.ChangeOld
import GoSem.ClaimJoined
import Derived.Test.YtbemeapjeipjlaaGreatDoorQN44
import Derived.Test.YtbemeapjeipjlaaGreatDoorQN49
import Derived.Test.YtbemeapjeipjlaaGreatDoorRows
import Derived.Test.YtbemeapjeipjlaaGreatDoorCards
import Derived.Test.YtbemeapjeipjlaaGreatDoorTie
import Derived.ProofKit
import Derived.LaidMore
import Derived.OpenShut
import Derived.ShutString
import Derived.Lib.SmallJoins
import Derived.Stop.LaidErr
import Derived.Stop.Joined
import Derived.SizedLaws
import Derived.SevenTiedAt
import Derived.Carry
import Derived.Deep.DeepHandedRow
import Derived.Deep.DeepWitnessRowRef
set_option linter.unusedVariables false
set_option linter.unusedSimpArgs false
set_option linter.unusedSectionVars false
set_option maxRecDepth 100000
set_option maxHeartbeats 8000000
namespace Go.Proofs.YtbemeapjeipjlaaGreatDoor
open Go Go.RowKit
theorem list_of {α:Type} {Q:Nat→α→Prop}:∀{n:Nat},(∀i,i<n→∃a,Q i a)→∃l:List α,l.length=n∧∀i x,l[i]?=some x→Q i x
 | 0,_=>⟨[],rfl,fun i x h=>by simp at h⟩
 | n+1,h=>by
  obtain ⟨l,hl,hq⟩:=list_of (n:=n) fun i hi=>h i (by omega)
  obtain ⟨a,ha⟩:=h n (by omega)
  refine ⟨l++[a],by simp[hl],fun i x hx=>?_⟩
  by_cases hi:i<n
  ·rw[List.getElem?_append_left (by omega)]at hx;exact hq i x hx
  ·have h1:i=n:=by have:=(List.getElem?_eq_some_iff.1 hx).1;simp at this;omega
   subst h1
   rw[List.getElem?_append_right (by omega),hl]at hx
   simp at hx;subst hx;exact ha
section
variable {H:Type} {enc:TypeId×Value→H} {P:Program} {w:World} {held:Bool}
def Wok (P:Program) (t:TypeId) (d:DataW H):Prop:=∀n∈d.weights P t,n≤reachBytes
theorem weightsAll_mem {e:TypeId} {d:DataW H}:∀{l:List (DataW H)},d∈l→∀n∈d.weights P e,n∈DataW.weightsAll P e l
 | x :: r,h,n,hn=>by
  rw[DataW.weightsAll,List.mem_append]
  rcases List.mem_cons.1 h with rfl|h
  ·exact .inl hn
  ·exact .inr (weightsAll_mem h n hn)
theorem weightsEach_mem {t:TypeId} {d:DataW H}:∀{ts:List TypeId} {l:List (DataW H)} {i:Nat},ts[i]?=some t→l[i]?=some d→∀n∈d.weights P t,n∈DataW.weightsEach P ts l
 | u :: ts,x :: l,0,h1,h2,n,hn=>by
  simp at h1 h2;subst h1;subst h2
  rw[DataW.weightsEach,List.mem_append];exact .inl hn
 | u :: ts,x :: l,i+1,h1,h2,n,hn=>by
  rw[DataW.weightsEach,List.mem_append]
  exact .inr (weightsEach_mem (i:=i) (by simpa using h1) (by simpa using h2) n hn)
 | [],_,i,h1,_,_,_=>by simp at h1
 | _ :: _,[],i,_,h2,_,_=>by simp at h2
theorem trod_float {k:FloatKind} {t:TypeId} {fuel:Nat} {cs:List Value} {x:DataW H×List MemPlace} (ht:P.underlying t=some (.float k)) (h:DataW.trod enc P w 0 (fun _=>true) held fuel t cs=some x):∃b,cs=[.float k b]:=by
 cases fuel with
 | zero=>simp[DataW.trod]at h
 | succ n =>
  unfold DataW.trod at h
  rw[ht]at h
  split at h <;> simp_all
theorem open_field {t:TypeId} {fs:Array Field} {fuel:Nat} {cs:List Value} {x:DataW H×List MemPlace} (ht:P.underlying t=some (.struct fs)) (h:DataW.trod enc P w 0 (fun _=>true) held fuel t cs=some x) (hw:Wok P t x.1) :
  ∃n,fuel=n+1∧cs.length=P.cellsOf t∧∀(i:Nat) (ty:TypeId) (o:Nat),(fs[i]?).map (fun f=>(f.type,f.offset))=some (ty,o)→∃y,DataW.trod enc P w 0 (fun _=>true) held n ty ((cs.drop o).take (P.cellsOf ty))=some y∧Wok P ty y.1:=by
 obtain ⟨xs,n,rfl,rfl,hl,hlen,hf⟩:=DataW.trod_struct ht h
 refine ⟨n,rfl,hl,fun i ty o hi=>?_⟩
 obtain ⟨f,hfi,hfo⟩:=Option.map_eq_some_iff.1 hi
 clear hi
 injection hfo with h1 h2
 subst h1;subst h2
 have hlt:i<xs.length:=by rw[hlen];exact (Array.getElem?_eq_some_iff.1 hfi).1
 refine ⟨xs[i],by rw[hf i f hfi,List.getElem?_eq_getElem hlt],fun m hm=>hw m ?_⟩
 show m∈DataW.weights P t (.agg (xs.map (·.1)))
 rw[DataW.weights,ht]
 exact weightsEach_mem (i:=i) (by simp[hfi]) (by simp[hlt]) m hm
theorem open_list {α:Type} {t e:TypeId} {C:Nat} {fuel:Nat} {cs:List Value} {x:DataW H×List MemPlace} (Pa:α→List Value→Prop) (ht:P.underlying t=some (.slice e)) (hC:P.cellsOf e=C) (hC0:0<C)
  (h:DataW.trod enc P w 0 (fun _=>true) held fuel t cs=some x) (hw:Wok P t x.1) (ih:∀n,n<fuel→∀cs' y,DataW.trod enc P w 0 (fun _=>true) held n e cs'=some y→Wok P e y.1→∃a,Pa a cs') :
  ∃A c,∃l:List α,cs=[.slice A l.length c]∧(A=none→c=0)∧l.length*P.bytesOf e≤reachBytes∧(l=[]∨∃b off,A=some ⟨b,off,none⟩∧b<w.heap.size∧∀(i:Nat) x,l[i]?=some x→∃v,Lie w b (off+i*C) v∧Pa x v):=by
 rcases DataW.trod_slice ht h with ⟨rfl,rfl⟩|⟨a,len,cap,elems,rest,n,rfl,rfl,rfl,hb,hl,hm,hlen,hel,-,-⟩
 ·exact ⟨none,0,[],rfl,fun _=>rfl,by simp,.inl rfl⟩
 have hbytes:len*P.bytesOf e≤reachBytes:=by
  have:=hw ((elems.length+rest.length)*P.bytesOf e) (by show _∈DataW.weights P t (.slice _ _);rw[DataW.weights,ht];simp)
  rw[hlen]at this
  exact Nat.le_trans (Nat.mul_le_mul_right _ (Nat.le_add_right _ _)) this
 have key:∀i,i<len→∃v x,Pa x v∧v.length=C∧∀j,j<C→w.cell? (a.add (i*C+j))=v[j]?:=by
  intro i hi
  have h1:=hel i hi
  rw[List.getElem?_eq_getElem (by omega),hC]at h1
  obtain ⟨v,hv,hv2⟩:=Option.bind_eq_some_iff.1 h1
  obtain ⟨_,hvl,hvc⟩:=World.cells?_some hv
  obtain ⟨x,hx⟩:=ih n (by omega) v _ hv2 (fun m hm=>hw m (by
   show m∈DataW.weights P t (.slice _ _)
   rw[DataW.weights,ht]
   exact List.mem_cons_of_mem _ (List.mem_append_left _ (weightsAll_mem (List.mem_map.2 ⟨elems[i],List.getElem_mem _,rfl⟩) m hm))))
  refine ⟨v,x,hx,hvl,fun j hj=>?_⟩
  have:=hvc j hj
  rw[←Deep.add_add]
  exact this
 by_cases h0:len=0
 ·subst h0
  exact ⟨some a,cap,[],rfl,by simp,by simp,.inl rfl⟩
 obtain ⟨v0,x0,_,hv0,hc0⟩:=key 0 (by omega)
 have hcell:=hc0 0 hC0
 rw[List.getElem?_eq_getElem (by omega)]at hcell
 obtain ⟨b,off,spot⟩:=a
 have hself:Addr.add ⟨b,off,spot⟩ 0=⟨b,off,spot⟩:=by unfold Addr.add;simp
 have hspot:spot=none:=by
  rw[show (0*C+0)=0 by omega,hself]at hcell
  unfold World.cell? at hcell
  simp only at hcell
  split at hcell
  ·cases spot with
   | none=>rfl
   | some s=>simp at hcell
  ·cases hcell
 subst hspot
 have hadd:∀k,(Addr.add ⟨b,off,none⟩ k)=⟨b,off+k,none⟩:=fun k=>by unfold Addr.add;by_cases hk:k=0 <;> simp[hk]
 rw[hadd]at hcell
 obtain ⟨l,hll,hlq⟩:=list_of (Q:=fun i (x:α)=>∃v,Lie w b (off+i*C) v∧Pa x v) (n:=len) fun i hi=>by
  obtain ⟨v,x,hx,hvl,hc⟩:=key i hi
  refine ⟨x,v,fun j y hj=>?_,hx⟩
  have hjl:j<C:=by rw[←hvl];exact (List.getElem?_eq_some_iff.1 hj).1
  have:=hc j hjl
  rw[hadd,hj]at this
  rw[Nat.add_assoc]
  exact this
 exact ⟨_,cap,l,by rw[hll],by simp,by rw[hll];exact hbytes,.inr ⟨b,off,rfl,World.block_lt_of_cell? _ _ hcell,hlq⟩⟩
end
theorem str_wok {H:Type} {P:Program} {t:TypeId} {s:ByteArray} (h:Wok (H:=H) P t (.lit (.string s.data.toList))):s.size≤140737488351232:=by
 have:=h s.data.toList.length (by rw[DataW.weights];simp)
 simpa [reachBytes] using this
theorem i64_wf {n:Int} (h:(Lit.int .i64 n).wf=true):i64B n:=by
 simp[Lit.wf,IntKind.min,IntKind.max,IntKind.signed,IntKind.bits]at h
 exact h
theorem u64_wf {n:Int} (h:(Lit.int .u64 n).wf=true):0≤n∧n≤18446744073709551615:=by
 simp[Lit.wf,IntKind.min,IntKind.max,IntKind.signed,IntKind.bits]at h
 exact h
theorem u8_wf {n:Int} (h:(Lit.int .u8 n).wf=true):∃u:UInt8,n=(u.toNat:Int):=by
 simp[Lit.wf,IntKind.min,IntKind.max,IntKind.signed,IntKind.bits]at h
 refine ⟨UInt8.ofNat n.toNat,?_⟩
 rw[UInt8.toNat_ofNat']
 omega
section
variable {H:Type} {enc:TypeId×Value→H} {w:World} {held:Bool}
theorem open_bytes {fuel:Nat} {cs:List Value} {x:DataW H×List MemPlace} (h:DataW.trod enc Tryz.prog w 0 (fun _=>true) held fuel 24 cs=some x) (hw:Wok Tryz.prog 24 x.1) :
  ∃A c,∃l:List UInt8,cs=[.slice A l.length c]∧(A=none→c=0)∧l.length≤140737488351232∧ByteRow w (fun b=>b<w.heap.size) A l:=by
 obtain ⟨A,c,l,h1,h2,h3,h4⟩:=open_list (α:=UInt8) (C:=1) (fun u v=>v=[.int .u8 (u.toNat:Int)]) Tryz.underlying24 (by kernel_rfl) (by omega) h hw (fun n _ cs' y hy _=>by
  obtain ⟨m,rfl,_,hwf⟩:=DataW.trod_int Tryz.underlying5 hy
  obtain ⟨u,rfl⟩:=u8_wf hwf
  exact ⟨u,rfl⟩)
 have hb:Tryz.prog.bytesOf 5=1:=by kernel_rfl
 rw[hb,Nat.mul_one]at h3
 refine ⟨A,c,l,h1,h2,h3,h4.imp id ?_⟩
 rintro ⟨b,off,hA,hlt,hr⟩
 refine ⟨b,off,hA,hlt,fun i x hx=>?_⟩
 obtain ⟨v,hv,rfl⟩:=hr i x hx
 have:=hv 0 _ rfl
 simpa using this
theorem eleven_of {cs:List Value} (h:cs.length=11):∃c0 c1 c2 c3 c4 c5 c6 c7 c8 c9 c10,cs=[c0,c1,c2,c3,c4,c5,c6,c7,c8,c9,c10]:=by
 match cs,h with
 | [c0,c1,c2,c3,c4,c5,c6,c7,c8,c9,c10],_=>exact ⟨c0,c1,c2,c3,c4,c5,c6,c7,c8,c9,c10,rfl⟩
theorem open_tm:∀(fuel:Nat) (cs:List Value) (x:DataW H×List MemPlace),DataW.trod enc Tryz.prog w 0 (fun _=>true) held fuel 30 cs=some x→Wok Tryz.prog 30 x.1→∃T,RdT w w.heap.size T cs:=by
 intro fuel
 induction fuel using Nat.strongRecOn with
 | _ fuel ih =>
  intro cs x h hw
  obtain ⟨n,rfl,hlen,hf⟩:=open_field Tryz.underlying30 h hw
  obtain ⟨c0,c1,c2,c3,c4,c5,c6,c7,c8,c9,c10,rfl⟩:=eleven_of (cs:=cs) (by rw[hlen];kernel_rfl)
  have k2:Tryz.prog.cellsOf 3=1:=by kernel_rfl
  have k3:Tryz.prog.cellsOf 4=1:=by kernel_rfl
  have k4:Tryz.prog.cellsOf 2=1:=by kernel_rfl
  have k5:Tryz.prog.cellsOf 23=1:=by kernel_rfl
  have k6:Tryz.prog.cellsOf 9=1:=by kernel_rfl
  have k7:Tryz.prog.cellsOf 24=1:=by kernel_rfl
  have k8:Tryz.prog.cellsOf 26=1:=by kernel_rfl
  have k9:Tryz.prog.cellsOf 27=1:=by kernel_rfl
  have k10:Tryz.prog.cellsOf 28=1:=by kernel_rfl
  obtain ⟨y0,e0,w0⟩:=hf 0 3 0 rfl
  obtain ⟨y1,e1,w1⟩:=hf 1 4 1 rfl
  obtain ⟨y2,e2,w2⟩:=hf 2 2 2 rfl
  obtain ⟨y3,e3,w3⟩:=hf 3 23 3 rfl
  obtain ⟨y4,e4,w4⟩:=hf 4 9 4 rfl
  obtain ⟨y5,e5,w5⟩:=hf 5 24 5 rfl
  obtain ⟨y6,e6,w6⟩:=hf 6 26 6 rfl
  obtain ⟨y7,e7,w7⟩:=hf 7 27 7 rfl
  obtain ⟨y8,e8,w8⟩:=hf 8 28 8 rfl
  obtain ⟨y9,e9,w9⟩:=hf 9 9 9 rfl
  obtain ⟨y10,e10,w10⟩:=hf 10 3 10 rfl
  simp only[k2,k3,k4,k5,k6,k7,k8,k9,k10,List.drop_succ_cons,List.drop_zero,List.take_succ_cons,List.take_zero]at e0 e1 e2 e3 e4 e5 e6 e7 e8 e9 e10
  obtain ⟨n0,q0,-,g0⟩:=DataW.trod_int Tryz.underlying3 e0
  obtain ⟨n1,q1,-⟩:=DataW.trod_bool Tryz.underlying4 e1
  obtain ⟨n2,q2,-,g2⟩:=DataW.trod_int Tryz.underlying2 e2
  obtain ⟨n3,q3⟩:=trod_float Tryz.underlying23 e3
  obtain ⟨n4,q4,rfl,-⟩:=DataW.trod_string Tryz.underlying9 e4
  have g4:=str_wok w4
  obtain ⟨A5,m5,n5,q5,g5,h5,r5⟩:=open_bytes e5 w5
  obtain ⟨n6,q6,-,g6⟩:=DataW.trod_int Tryz.underlying26 e6
  obtain ⟨A7,m7,n7,q7,g7,h7,r7⟩:=open_list (α:=Tm) (C:=11) (fun T v=>RdT w w.heap.size T v) Tryz.underlying27 (by kernel_rfl) (by omega) e7 w7 (fun m hm cs' y hy hwy=>ih m (by omega) cs' y hy hwy)
  obtain ⟨A8,m8,n8,q8,g8,h8,r8⟩:=open_list (α:=ByteArray×Tm) (C:=12) (fun p v=>∃y,v=.string p.1 :: y∧p.1.size≤140737488351232∧RdT w w.heap.size p.2 y) Tryz.underlying28 (by kernel_rfl) (by omega) e8 w8 (fun m hm cs' y hy hwy=>by
   obtain ⟨k,rfl,hlk,hfk⟩:=open_field Tryz.underlying37 hy hwy
   obtain ⟨z0,ez0,wz0⟩:=hfk 0 9 0 rfl
   obtain ⟨z1,ez1,wz1⟩:=hfk 1 30 1 rfl
   have hl12:cs'.length=12:=by rw[hlk];kernel_rfl
   obtain ⟨b0,br,rfl⟩:∃b0 br,cs'=b0 :: br:=by cases cs' with
    | nil=>simp at hl12
    | cons b r=>exact ⟨b,r,rfl⟩
   have kT:Tryz.prog.cellsOf 30=11:=by kernel_rfl
   simp only[k6,kT,List.drop_succ_cons,List.drop_zero,List.take_succ_cons,List.take_zero]at ez0 ez1
   rw[List.take_of_length_le (by simp at hl12;omega)]at ez1
   obtain ⟨s,es,rfl,-⟩:=DataW.trod_string Tryz.underlying9 ez0
   have hs:=str_wok wz0
   injection es with es
   subst es
   obtain ⟨T,hT⟩:=ih k (by omega) br _ ez1 wz1
   exact ⟨(s,T),br,rfl,hs,hT⟩)
  injection q0 with q0;injection q1 with q1;injection q2 with q2;injection q3 with q3;injection q4 with q4;injection q5 with q5;injection q6 with q6;injection q7 with q7;injection q8 with q8
  subst q0 q1 q2 q3 q4 q5 q6 q7 q8
  obtain ⟨n9,q9,rfl,-⟩:=DataW.trod_string Tryz.underlying9 e9
  have g9:=str_wok w9
  obtain ⟨n10,q10,-,g10⟩:=DataW.trod_int Tryz.underlying3 e10
  injection q9 with q9;injection q10 with q10
  subst q9 q10
  have b7:Tryz.prog.bytesOf 30=152:=by kernel_rfl
  have b8:Tryz.prog.bytesOf 37=168:=by kernel_rfl
  rw[b7]at h7
  rw[b8]at h8
  refine ⟨.mk n0 n1 n2 n3 n4 n5 n6 n7 n8 n9 n10,A5,m5,A7,m7,A8,m8,rfl,i64_wf g0,i64_wf g2,g4,h5,⟨g5,r5⟩,(u64_wf g6).1,(u64_wf g6).2,g9,i64_wf g10,⟨h7,r7.imp id ?_⟩,⟨h8,r8.imp id ?_⟩⟩
  ·rintro ⟨b,off,hA,hlt,hr⟩
   exact ⟨b,off,hA,hlt,RdTL.iff.2 hr⟩
  ·rintro ⟨b,off,hA,hlt,hr⟩
   refine ⟨b,off,hA,hlt,RdTD.iff.2 fun i p hp=>?_⟩
   obtain ⟨v,hv,y,rfl,hs,hT⟩:=hr i p hp
   refine ⟨by simpa using hv 0 _ rfl,hs,y,fun j u hj=>?_,hT⟩
   have:=hv (j+1) u (by simpa using hj)
   rwa [show off+i*12+(j+1)=off+i*12+1+j by omega]at this
theorem open_ex:∀(fuel:Nat) (cs:List Value) (x:DataW H×List MemPlace),DataW.trod enc Tryz.prog w 0 (fun _=>true) held fuel 32 cs=some x→Wok Tryz.prog 32 x.1→∃E,RdE w w.heap.size E cs:=by
 intro fuel
 induction fuel using Nat.strongRecOn with
 | _ fuel ih =>
  intro cs x h hw
  obtain ⟨n,rfl,hlen,hf⟩:=open_field Tryz.underlying32 h hw
  have hl15:cs.length=15:=by rw[hlen];kernel_rfl
  obtain ⟨c0,c1,c2,c3,cr,rfl⟩:∃c0 c1 c2 c3 cr,cs=c0 :: c1 :: c2 :: c3 :: cr:=by
   match cs,hl15 with
   | c0 :: c1 :: c2 :: c3 :: cr,_=>exact ⟨c0,c1,c2,c3,cr,rfl⟩
  have k2:Tryz.prog.cellsOf 3=1:=by kernel_rfl
  have k6:Tryz.prog.cellsOf 9=1:=by kernel_rfl
  have k9:Tryz.prog.cellsOf 22=1:=by kernel_rfl
  have kT:Tryz.prog.cellsOf 30=11:=by kernel_rfl
  obtain ⟨y0,e0,w0⟩:=hf 0 9 0 rfl
  obtain ⟨y1,e1,w1⟩:=hf 1 3 1 rfl
  obtain ⟨y2,e2,w2⟩:=hf 2 22 2 rfl
  obtain ⟨y3,e3,w3⟩:=hf 3 9 3 rfl
  obtain ⟨y4,e4,w4⟩:=hf 4 30 4 rfl
  simp only[k2,k6,k9,kT,List.drop_succ_cons,List.drop_zero,List.take_succ_cons,List.take_zero]at e0 e1 e2 e3 e4
  obtain ⟨n0,q0,rfl,-⟩:=DataW.trod_string Tryz.underlying9 e0
  have g0:=str_wok w0
  obtain ⟨n1,q1,-,g1⟩:=DataW.trod_int Tryz.underlying3 e1
  obtain ⟨A2,m2,n2,q2,g2,h2,r2⟩:=open_list (α:=Ex) (C:=15) (fun T v=>RdE w w.heap.size T v) Tryz.underlying22 (by kernel_rfl) (by omega) e2 w2 (fun m hm cs' y hy hwy=>ih m (by omega) cs' y hy hwy)
  obtain ⟨n3,q3,rfl,-⟩:=DataW.trod_string Tryz.underlying9 e3
  have g3:=str_wok w3
  rw[List.take_of_length_le (by simp at hl15;omega)]at e4
  obtain ⟨T,hT⟩:=open_tm _ _ _ e4 w4
  injection q0 with q0;injection q1 with q1;injection q2 with q2;injection q3 with q3
  subst q0 q1 q2 q3
  have b7:Tryz.prog.bytesOf 32=216:=by kernel_rfl
  rw[b7]at h2
  refine ⟨.mk n0 n1 n2 n3 T,A2,m2,cr,rfl,g0,i64_wf g1,g3,hT,h2,r2.imp id ?_⟩
  rintro ⟨b,off,hA,hlt,hr⟩
  exact ⟨b,off,hA,hlt,RdEL.iff.2 hr⟩
theorem open_words {fuel:Nat} {cs:List Value} {p:List MemPlace} {l:List ByteArray} (h:DataW.trod enc Tryz.prog w 0 (fun _=>true) held fuel 33 cs=some (.slice (l.map fun s=>.lit (.string s.data.toList)) [],p)) (hl:0<l.length) :
  ∃b off c,cs=[.slice (some ⟨b,off,none⟩) l.length c]∧b<w.heap.size∧∀i s,l[i]?=some s→w.cell? ⟨b,off+i,none⟩=some (.string s):=by
 rcases DataW.trod_slice Tryz.underlying33 h with ⟨_,h2⟩|⟨a,len,cap,elems,rest,n,rfl,rfl,hx,hb,hlc,hm,hlen,hel,-,-⟩
 ·cases h2
 injection hx with hx _
 injection hx with hx _
 have hll:l.length=len:=by have:=congrArg List.length hx;simpa [hlen] using this
 have k6:Tryz.prog.cellsOf 9=1:=by kernel_rfl
 have key:∀i s,l[i]?=some s→w.cell? (a.add i)=some (.string s):=by
  intro i s hi
  have hil:i<len:=by rw[←hll];exact (List.getElem?_eq_some_iff.1 hi).1
  have h1:=hel i hil
  rw[List.getElem?_eq_getElem (by omega),k6]at h1
  obtain ⟨v,hv,hv2⟩:=Option.bind_eq_some_iff.1 h1
  obtain ⟨_,hvl,hvc⟩:=World.cells?_some hv
  obtain ⟨s',rfl,e,_⟩:=DataW.trod_string Tryz.underlying9 hv2
  have h2:(elems.map (·.1))[i]?=some (.lit (.string s.data.toList)):=by rw[←hx];simp[hi]
  rw[List.getElem?_map,List.getElem?_eq_getElem (by omega),e]at h2
  simp only[Option.map_some,Option.some.injEq,DataW.lit.injEq,Lit.string.injEq]at h2
  have hss:s'=s:=by
   cases s' with
   | mk x=>cases s with
    | mk y=>exact congrArg _ (Array.ext' h2)
  have:=hvc 0 (by omega)
  rw[Nat.mul_one]at this
  rw[hss]at this
  rw[show a.add i=(a.add i).add 0 by unfold Addr.add;simp]
  simpa using this
 obtain ⟨s0,hs0⟩:∃s0,l[0]?=some s0:=⟨_,List.getElem?_eq_getElem hl⟩
 have hcell:=key 0 s0 hs0
 obtain ⟨b,off,spot⟩:=a
 have hself:Addr.add ⟨b,off,spot⟩ 0=⟨b,off,spot⟩:=by unfold Addr.add;simp
 have hspot:spot=none:=by
  rw[hself]at hcell
  unfold World.cell? at hcell
  simp only at hcell
  split at hcell
  ·cases spot with
   | none=>rfl
   | some s=>simp at hcell
  ·cases hcell
 subst hspot
 have hadd:∀k,(Addr.add ⟨b,off,none⟩ k)=⟨b,off+k,none⟩:=fun k=>by unfold Addr.add;by_cases hk:k=0 <;> simp[hk]
 rw[hadd]at hcell
 exact ⟨b,off,cap,by rw[hll],World.block_lt_of_cell? _ _ hcell,fun i s hi=>by rw[←hadd];exact key i s hi⟩
end
end Go.Proofs.YtbemeapjeipjlaaGreatDoor
namespace Go.Proofs.YtbemeapjeipjlaaGreatDoor
section
variable {H:Type} {enc:TypeId×Value→H} {w:World} {held:Bool}
theorem open_ents {fuel:Nat} {cs:List Value} {x:DataW H×List MemPlace} (h:DataW.trod enc Tryz.prog w 0 (fun _=>true) held fuel 28 cs=some x) (hw:Wok Tryz.prog 28 x.1) :
  ∃A c,∃l:List (ByteArray×Tm),cs=[.slice A l.length c]∧l.length*168≤140737488351232∧EntsAt w w.heap.size A l:=by
 have k6:Tryz.prog.cellsOf 9=1:=by kernel_rfl
 obtain ⟨A8,m8,n8,q8,g8,h8,r8⟩:=open_list (α:=ByteArray×Tm) (C:=12) (fun p v=>∃y,v=.string p.1 :: y∧p.1.size≤140737488351232∧RdT w w.heap.size p.2 y) Tryz.underlying28 (by kernel_rfl) (by omega) h hw (fun m hm cs' y hy hwy=>by
   obtain ⟨k,rfl,hlk,hfk⟩:=open_field Tryz.underlying37 hy hwy
   obtain ⟨z0,ez0,wz0⟩:=hfk 0 9 0 rfl
   obtain ⟨z1,ez1,wz1⟩:=hfk 1 30 1 rfl
   have hl12:cs'.length=12:=by rw[hlk];kernel_rfl
   obtain ⟨b0,br,rfl⟩:∃b0 br,cs'=b0 :: br:=by cases cs' with
    | nil=>simp at hl12
    | cons b r=>exact ⟨b,r,rfl⟩
   have kT:Tryz.prog.cellsOf 30=11:=by kernel_rfl
   simp only[k6,kT,List.drop_succ_cons,List.drop_zero,List.take_succ_cons,List.take_zero]at ez0 ez1
   rw[List.take_of_length_le (by simp at hl12;omega)]at ez1
   obtain ⟨s,es,rfl,-⟩:=DataW.trod_string Tryz.underlying9 ez0
   have hs:=str_wok wz0
   injection es with es
   subst es
   obtain ⟨T,hT⟩:=open_tm k br _ ez1 wz1
   exact ⟨(s,T),br,rfl,hs,hT⟩)
 have b8:Tryz.prog.bytesOf 37=168:=by kernel_rfl
 rw[b8]at h8
 refine ⟨A8,m8,n8,q8,h8,r8.imp id ?_⟩
 rintro ⟨b,off,hA,hlt,hr⟩
 refine ⟨b,off,hA,hlt,RdTD.iff.2 fun i p hp=>?_⟩
 obtain ⟨v,hv,y,rfl,hs,hT⟩:=hr i p hp
 refine ⟨by simpa using hv 0 _ rfl,hs,y,fun j u hj=>?_,hT⟩
 have:=hv (j+1) u (by simpa using hj)
 rwa [show off+i*12+(j+1)=off+i*12+1+j by omega]at this
end
end Go.Proofs.YtbemeapjeipjlaaGreatDoor
namespace Go.Proofs.YtbemeapjeipjlaaGreatDoor.queryNames
open Go Go.ChangeShapes Go.WideShapes Go.ChangeAt Go.RowKit Go.Joins Go.Deep
open Go.ChangeMaps (open_string shut_string)
abbrev laid2 : List (String × DataW Unit) := [("tenon/query.words", Rows.laid_tenon_query_words), ("tenon/query.kinds", Rows.laid_tenon_query_kinds)]
theorem own:ownKnob Tryz.prog.godebug=none:=by kernel_rfl
theorem gWords : Tryz.prog.globalNamed "tenon/query.words" = some 2 := by kernel_rfl
theorem gKinds : Tryz.prog.globalNamed "tenon/query.kinds" = some 1 := by kernel_rfl
theorem tWords:(Tryz.prog.globals[2]?).map (·.type)=some 33:=by kernel_rfl
theorem tKinds:(Tryz.prog.globals[1]?).map (·.type)=some 33:=by kernel_rfl
theorem laidOut:laidOutB Tryz.prog=true:=by kernel_rfl
theorem door_met (os:Os) (args:Array Value):laidMetH Tryz.prog laid2 ((World.doorLaid Tryz.prog 400 os).forCall (fun _ _=>0) ⟨#[],args,[]⟩).memory:=
 laidMetH_of_parts3 (fuel:=8) (laidMet_of_run' 8 (by kernel_rfl) (by kernel_rfl)) (by kernel_rfl) (by kernel_rfl)
theorem shut_bool_cell {H:Type} {enc:TypeId×Value→H} {P:Program} {w:World} {base:Nat} {spare:Nat→Bool} {held:Bool} {e:TypeId} (he:P.underlying e=some .bool) {b:Bool}:∃n,DataW.trod enc P w base spare held n e [.bool b]=some (.lit (.bool b),[]):=
 ⟨1,by simp[DataW.trod,he]⟩
theorem words_of {W:World} (h:laidMetH Tryz.prog laid2 W):Words W (fun b=>b<W.heap.size) 2 wordList∧Words W (fun b=>b<W.heap.size) 1 kindWords:=by
 rw[MakeChecks.laidMetH_plain _ _ _ (by kernel_rfl)]at h
 obtain ⟨ps,⟨g0,t0,cs0,f0,p0,q0,hg0,ht0,hv0,hd0,⟨g1,t1,cs1,f1,p1,q1,hg1,ht1,hv1,hd1,-,-⟩,-⟩,-⟩:=h
 obtain rfl:=Option.some.inj (gWords.symm.trans hg0)
 obtain rfl:=Option.some.inj (tWords.symm.trans ht0)
 obtain rfl:=Option.some.inj (gKinds.symm.trans hg1)
 obtain rfl:=Option.some.inj (tKinds.symm.trans ht1)
 obtain ⟨b0,o0,c0,e0,hb0,hc0⟩:=open_words (l:=wordList) hd0 (by decide)
 obtain ⟨b1,o1,c1,e1,hb1,hc1⟩:=open_words (l:=kindWords) hd1 (by decide)
 have z0:W.cell? ⟨2,0,none⟩=some (.slice (some ⟨b0,o0,none⟩) wordList.length c0):=by
  have:=World.var?_cell gWords hv0 0
  rw[this]
  have e:cs0[0]?=cs0.toList[0]?:=by simp
  rw[e,e0];rfl
 have z1:W.cell? ⟨1,0,none⟩=some (.slice (some ⟨b1,o1,none⟩) kindWords.length c1):=by
  have:=World.var?_cell gKinds hv1 0
  rw[this]
  have e:cs1[0]?=cs1.toList[0]?:=by simp
  rw[e,e1];rfl
 exact ⟨⟨World.block_lt_of_cell? _ _ z0,b0,o0,c0,hb0,z0,hc0⟩,⟨World.block_lt_of_cell? _ _ z1,b1,o1,c1,hb1,z1,hc1⟩⟩
theorem agg_of {v:Value} {n:Nat} (h:v.cells.toList.length=n) (hn:n≠1):v=termOf v.cells.toList:=by
 cases v <;> first|rfl|(exact absurd h (by simpa [Value.cells] using (Ne.symm hn)))
theorem bulk_pos {H:Type} (d:DataW H):1≤Rows.uptoBulk d:=by
 cases d with
 | lit l=>cases l <;> simp[Rows.uptoBulk]
 | _=>simp[Rows.uptoBulk]
theorem bulk_len {H:Type} (l:List (DataW H)):l.length≤Rows.uptoBulkAll l:=by
 induction l with
 | nil=>simp
 | cons x r ih=>have:=bulk_pos x;rw[Rows.uptoBulkAll,List.length_cons];omega
theorem len_bulk {H:Type} {enc:TypeId×Value→H} {w:World} {held:Bool} {fuel:Nat} {A:Option Addr} {m c:Nat} {x:DataW H×List MemPlace} (h:DataW.trod enc Tryz.prog w 0 (fun _=>true) held fuel 28 [.slice A m c]=some x):m≤Rows.uptoBulk x.1:=by
 rcases DataW.trod_slice Tryz.underlying28 h with ⟨h1,rfl⟩|⟨a,len,cap,elems,rest,n,rfl,h1,rfl,hb,hl,hm,hlen,hel,-,-⟩
 ·injection h1 with h1 _;injection h1 with _ h2 _;omega
 ·injection h1 with h1 _
  injection h1 with _ h2 _
  have e2:m=elems.length:=by omega
  show m≤Rows.uptoBulk (.slice (elems.map (·.1)) _)
  rw[Rows.uptoBulk]
  have h3:=bulk_len (elems.map (·.1))
  rw[List.length_map]at h3
  omega
noncomputable def witnessRead (H:Type) (enc:TypeId×Value→H) (os:Os):Option (List (DataW H)×List (DataW H)×List MemPlace):=
 DataW.whole enc Tryz.prog ((World.doorLaid Tryz.prog 400 os).forCall (fun _ _=>0) ⟨#[],#[.agg #[.string ByteArray.empty,.int .i64 0,.slice none 0 0,.string ByteArray.empty,.int .i64 0,.bool false,.int .i64 0,.float .f64 0,.string ByteArray.empty,.slice none 0 0,.int .u64 0,.slice none 0 0,.slice none 0 0,.string ByteArray.empty,.int .i64 0],.slice none 0 0,.slice none 0 0],[]⟩).memory Tryz.f3.params.toList Rows.queryNamesSpec.vars false #[.agg #[.string ByteArray.empty,.int .i64 0,.slice none 0 0,.string ByteArray.empty,.int .i64 0,.bool false,.int .i64 0,.float .f64 0,.string ByteArray.empty,.slice none 0 0,.int .u64 0,.slice none 0 0,.slice none 0 0,.string ByteArray.empty,.int .i64 0],.slice none 0 0,.slice none 0 0].toList 8
theorem witness_some (H:Type) (enc:TypeId×Value→H) (os:Os):(witnessRead H enc os).isSome=true:=by kernel_rfl
theorem witness_get (H:Type) (enc:TypeId×Value→H) (os:Os):witnessRead H enc os=some ((witnessRead H enc os).get (witness_some H enc os)):=(Option.some_get _).symm
theorem lifted (os:Os) (started:os.Started) (H:Type) (enc:TypeId×Value→H) (F:Stop.Interp) :
  ReturnsInHanded {} Tryz.checked os 3 .any ((Rows.OpenSpec.upto Rows.queryNamesSpec).preRow enc Tryz.prog Tryz.f3 Rows.queryNamesUptoRow.domain false Rows.queryNamesUptoRow.laid) (((Rows.OpenSpec.upto Rows.queryNamesSpec).at F).post enc Tryz.prog Tryz.f3 false true false false):=by
 refine returnsInHanded_of_row (C:=Tryz.checked) (s:=Rows.OpenSpec.upto Rows.queryNamesSpec) own started (by kernel_rfl) Tryz.func3
  (witness_row_atRef (enc:=enc) (C:=Tryz.checked) false (World.doorLaid Tryz.prog 400 os) #[.agg #[.string ByteArray.empty,.int .i64 0,.slice none 0 0,.string ByteArray.empty,.int .i64 0,.bool false,.int .i64 0,.float .f64 0,.string ByteArray.empty,.slice none 0 0,.int .u64 0,.slice none 0 0,.slice none 0 0,.string ByteArray.empty,.int .i64 0],.slice none 0 0,.slice none 0 0] rfl (by kernel_rfl) (by kernel_rfl) (by kernel_rfl)
   (OpenSpec.preRow_of_cond 8 (witness_get H enc os) (by kernel_rfl) (fun k hk=>by cases hk;kernel_rfl) (by kernel_rfl) (door_met os _))) ?_
 intro W base args ds gs before hval0 hW _ hcond hsz0 hL _ _
 have hval:∀(j:Nat) t v,Tryz.f3.params[j]?=some t→args[j]?=some v→Value.okWide Tryz.prog W .any base t v:=hval0
 have hW':=hW
 obtain ⟨p,q,hA0,hV,rfl,hfz,hnd⟩:=hW
 have hA:DataW.TrodAll enc Tryz.prog W 0 (fun _=>true) true Tryz.f3.params.toList args.toList ds p:=hA0
 rw[Tryz.params3]at hA hval
 obtain ⟨v0,vs0,d0,ds0,p0,q0,hargs,rfl,rfl,h0,r0⟩:=trodAll_cons hA
 obtain ⟨v1,vs1,d1,ds1,p1,q1,rfl,rfl,rfl,h1,r1⟩:=trodAll_cons r0
 obtain ⟨v2,vs2,d2,ds2,p2,q2,rfl,rfl,rfl,h2,r2⟩:=trodAll_cons r1
 obtain ⟨rfl,rfl,rfl⟩:=trodAll_nil r2
 obtain ⟨rfl,rfl⟩:=trodVars_none hV
 have hargs2:args=#[v0,v1,v2]:=by
  cases args with
  | mk l=>exact congrArg Array.mk hargs
 subst hargs2
 have hbulk:Rows.uptoBulkAll [d0,d1,d2]≤1048576:=of_decide_eq_true (hcond _ rfl)
 simp only[Rows.uptoBulkAll]at hbulk
 have hsz:∀m∈DataW.weightsEach Tryz.prog [32,28,28] [d0,d1,d2],m≤reachBytes:=by
  intro m hm
  have h1:(DataW.weightsEach Tryz.prog [32,28,28] [d0,d1,d2]).all (fun x=>decide (x≤reachBytes))=true:=hsz0
  exact of_decide_eq_true (List.all_eq_true.1 h1 m hm)
 have hlt:∀x∈(p0++(p1++(p2++[])))++[],x.block<W.heap.size:=fun x hx=>by simpa using hW'.lt x hx
 obtain ⟨hw2,hw⟩:=words_of hL
 obtain ⟨n0,t0⟩:=h0
 obtain ⟨x0,hx0⟩:=open_ex _ _ _ t0 (fun m hm=>hsz m (weightsEach_mem (i:=0) rfl rfl m hm))
 have e0:=agg_of (v:=v0) (n:=15) (hx0.fifteen.1) (by decide)
 have a0:DataW.Trod enc Tryz.prog W 0 (fun _=>true) true 32 v0 d0 p0:=⟨n0,t0⟩
 obtain ⟨n1,t1⟩:=h1
 have a1:DataW.Trod enc Tryz.prog W 0 (fun _=>true) true 28 v1 d1 p1:=⟨n1,t1⟩
 obtain ⟨B1,m1,k1,rfl⟩:=okWide_slice Tryz.underlying28 (hval 1 28 v1 rfl rfl)
 obtain ⟨A1,c1,x1,e1,hl1,hx1⟩:=open_ents t1 (fun m hm=>hsz m (weightsEach_mem (i:=1) rfl rfl m hm))
 injection e1 with e1 _
 injection e1 with e1a e1b e1c
 subst e1a e1b e1c
 have hu1:x1.length≤1048576:=by have:=len_bulk t1;simp only at this;omega
 obtain ⟨n2,t2⟩:=h2
 have a2:DataW.Trod enc Tryz.prog W 0 (fun _=>true) true 28 v2 d2 p2:=⟨n2,t2⟩
 obtain ⟨B2,m2,k2,rfl⟩:=okWide_slice Tryz.underlying28 (hval 2 28 v2 rfl rfl)
 obtain ⟨A2,c2,x2,e2,hl2,hx2⟩:=open_ents t2 (fun m hm=>hsz m (weightsEach_mem (i:=2) rfl rfl m hm))
 injection e2 with e2 _
 injection e2 with e2a e2b e2c
 subst e2a e2b e2c
 have hu2:x2.length≤1048576:=by have:=len_bulk t2;simp only at this;omega
 have hlaw:Calls Tryz.prog 3 #[v0,(.slice B1 x1.length k1),(.slice B2 x2.length k2)] W (BoolPost true W):=by
  rw[e0]
  exact names_law x0 x1 x2 _ _ _ _ _ W hx0 hx1 hx2 hu1 hu2 hw hw2 (Hd (fun x w h=>rNames_any x0 x w h))
 have e1:((Rows.OpenSpec.upto Rows.queryNamesSpec).at F).fn H ([d0,d1,d2]++[])={ results:=[.lit (.bool true)],args:=[d0,d1,d2] }:=by show Rows.queryNamesSpec.fn H _=_;simp[Rows.queryNamesSpec]
 refine hlaw.mono fun e W' ⟨he,hb⟩=>?_
 subst he
 refine ⟨_,rfl,_,_,_,[],(p0++(p1++(p2++[]))),[],hW',?_,?_,?_,hb.frame _,fun h=>by cases h⟩
 ·rw[e1];exact trodAll_mk1 (shut_bool Tryz.underlying4 true)
 ·rw[e1]
  have hbt:=fun (t:TypeId) (v:Value) (d:DataW H) (pp:List MemPlace) (hr:Tryz.prog.readableRec t=true) (hrow:t<Tryz.prog.types.size) (h:DataW.Trod enc Tryz.prog W 0 (fun _=>true) true t v d pp) (hl:∀x∈pp,x.block<W.heap.size)=>Below.trod laidOut hr hrow h hb hl
  exact trodAll_cons_mk (hbt 32 v0 d0 p0 (by kernel_rfl) (of_decide_eq_true (by kernel_rfl)) a0 (fun x hx=>hlt x (by simp[hx]))) (trodAll_cons_mk (hbt 28 (.slice B1 x1.length k1) d1 p1 (by kernel_rfl) (of_decide_eq_true (by kernel_rfl)) a1 (fun x hx=>hlt x (by simp[hx]))) (trodAll_cons_mk (hbt 28 (.slice B2 x2.length k2) d2 p2 (by kernel_rfl) (of_decide_eq_true (by kernel_rfl)) a2 (fun x hx=>hlt x (by simp[hx]))) (trodAll_mk0)))
 ·rw[e1];rfl
theorem over:Rows.QueryNamesUptoSaid:=
 OpenClaim.holds_of_cond 3 Tryz.f3 rfl rfl rfl rfl rfl rfl rfl ⟨rfl,rfl,rfl,rfl,rfl⟩ rfl rfl rfl rfl rfl (by kernel_rfl) Tryz.func3 (by kernel_rfl)
  (of_decide_eq_true (by kernel_rfl)) (by unfold Func.isWrapper;first|(rw[if_pos (by decide +kernel)];kernel_rfl)|(rw[if_neg (by decide +kernel)];exact ⟨rfl,rfl⟩))
  (fun os started H enc _ F=>by rw[OpenClaim.pre_eq_preRow];exact lifted os started H enc F)
theorem proved:Rows.QueryNamesUptoCardSaid:=
 Claim7.holds_tied_plain_at .later [] [.widerDeep, .widerDeep] true (true, "cfd40f2f2635b55ed1940b05a208e8c67c7f55c334241f057b4e7590ccd58b02") true
  over (fun _ h=>by cases h) (by kernel_rfl) (fun _ h=>by cases h) queryNamesUpto_row_tie rfl ⟨rfl,rfl⟩ (by kernel_rfl) rfl
  (fun f fn hf hfn=>by
   obtain rfl : f = 3 := Option.some.inj ((show Tryz.prog.funcNamed "tenon/tenonlaw17.QueryNames" = some 3 by kernel_rfl).symm.trans hf) |>.symm
   obtain rfl:fn=Tryz.f3:=(Option.some.inj (Tryz.func3.symm.trans hfn)).symm
   exact ⟨by kernel_rfl,fun j t ht=>by
    rw[Tryz.params3]at ht
    have hm:t∈[32,28,28]:=by simpa using Array.mem_of_getElem? ht
    have hall:([32,28,28].all fun u=>!Tryz.prog.wantsStandIn u)=true:=by kernel_rfl
    exact (show Tryz.prog.wantsStandIn t=false by simpa using List.all_eq_true.1 hall t hm)⟩)
  (by kernel_rfl)
#print axioms proved
end Go.Proofs.YtbemeapjeipjlaaGreatDoor.queryNames
