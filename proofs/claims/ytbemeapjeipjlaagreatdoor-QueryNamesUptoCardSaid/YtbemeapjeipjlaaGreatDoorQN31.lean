/- Walks: query.eval. -/
import Derived.Test.YtbemeapjeipjlaaGreatDoorQN28
import Derived.Test.YtbemeapjeipjlaaGreatDoorQN30
set_option linter.unusedVariables false
set_option linter.unusedSimpArgs false
namespace Go.Proofs.YtbemeapjeipjlaaGreatDoor
open Go Go.RowKit
set_option maxRecDepth 100000
set_option maxHeartbeats 8000000
noncomputable def evalV (e:Ex) (v:V):V×Int×Nat:=
 if (checkV v).2≠0 then (.nil,0,(checkV v).2)
 else if validV e=false then (.nil,0,1)
 else match (askV e v 0).1 with
  | .val x=>(x,0,0)
  | .gone a why=>(.nil,a,why)
def EvalPost (S:Nat→Prop) (r:V×Int×Nat) (w:World) (e:Ending) (w':World):Prop:=∃xv,e=.returned (.tuple #[xv,.int .i64 r.2.1,.int .i64 r.2.2])∧Below w.heap.size w w'∧RdS w' (fun b=>S b∨New w w' b) r.1 xv
theorem three_set {w:World} {b:Nat} {u0 u1 u2:Value} (x y z:Value) (h0:w.cell? ⟨b,0,none⟩=some u0) (h1:w.cell? ⟨b+1,0,none⟩=some u1) (h2:w.cell? ⟨b+1+1,0,none⟩=some u2) :
  (((w.setCell ⟨b,0,none⟩ x).setCell ⟨b+1,0,none⟩ y).setCell ⟨b+1+1,0,none⟩ z).cell? ⟨b,0,none⟩=some x∧(((w.setCell ⟨b,0,none⟩ x).setCell ⟨b+1,0,none⟩ y).setCell ⟨b+1+1,0,none⟩ z).cell? ⟨b+1,0,none⟩=some y∧(((w.setCell ⟨b,0,none⟩ x).setCell ⟨b+1,0,none⟩ y).setCell ⟨b+1+1,0,none⟩ z).cell? ⟨b+1+1,0,none⟩=some z∧Below b w (((w.setCell ⟨b,0,none⟩ x).setCell ⟨b+1,0,none⟩ y).setCell ⟨b+1+1,0,none⟩ z):=by
 refine ⟨?_,?_,?_,?_⟩
 ·rw[World.cell?_setCell_other _ _ _ _ (by intro h;injection h with h;omega),World.cell?_setCell_other _ _ _ _ (by intro h;injection h with h;omega)]
  exact World.cell?_setCell_same _ _ _ h0
 ·rw[World.cell?_setCell_other _ _ _ _ (by intro h;injection h with h;omega)]
  exact World.cell?_setCell_same _ _ _ ((World.cell?_setCell_other _ _ _ _ (by intro h;injection h with h;omega)).trans h1)
 ·exact World.cell?_setCell_same _ _ _ ((World.cell?_setCell_other _ _ _ _ (by intro h;injection h with h;omega)).trans ((World.cell?_setCell_other _ _ _ _ (by intro h;injection h with h;omega)).trans h2))
 ·exact (((Below.refl b w).setCell (p:=⟨b,0,none⟩) (Nat.le_refl _) _).setCell (p:=⟨b+1,0,none⟩) (Nat.le_succ _) _).setCell (p:=⟨b+1+1,0,none⟩) (by show b≤b+1+1;omega) _
theorem three_other {w:World} {b:Nat} {p:Addr} (x y z:Value) (h0:p.block≠b) (h1:p.block≠b+1) (h2:p.block≠b+1+1):(((w.setCell ⟨b,0,none⟩ x).setCell ⟨b+1,0,none⟩ y).setCell ⟨b+1+1,0,none⟩ z).cell? p=w.cell? p:=by
 rw[World.cell?_setCell_other _ _ _ _ (by intro h;exact h2 (by rw[←h])),World.cell?_setCell_other _ _ _ _ (by intro h;exact h1 (by rw[←h])),World.cell?_setCell_other _ _ _ _ (by intro h;exact h0 (by rw[←h]))]
theorem eval_leaves {R:Ending→World→Prop} {tmps:Array Value} {b:Nat} {W:World} {x y z:Value} (h4:tmps[4]?.getD undef=.pointer (some ⟨b,0,none⟩)) (h5:tmps[5]?.getD undef=.pointer (some ⟨b+1,0,none⟩)) (h6:tmps[6]?.getD undef=.pointer (some ⟨b+1+1,0,none⟩))
  (c0:W.cell? ⟨b,0,none⟩=some x) (c1:W.cell? ⟨b+1,0,none⟩=some y) (c2:W.cell? ⟨b+1+1,0,none⟩=some z) (hR:R (.returned (.tuple #[x,y,z])) W):Leaves Tryz.prog Tryz.f24 tmps R [] .returning W:=by
 simp[Leaves,settle,results,Tryz.results24,go_sem,h4,h5,h6,c0,c1,c2]
 exact hR
theorem eval_leaves2 {R:Ending→World→Prop} {tmps:Array Value} {b:Nat} {W:World} {x y z u:Value} (h4:tmps[4]?.getD undef=.pointer (some ⟨b,0,none⟩)) (h5:tmps[5]?.getD undef=.pointer (some ⟨b+1,0,none⟩)) (h6:tmps[6]?.getD undef=.pointer (some ⟨b+1+1,0,none⟩))
  (c0:W.cell? ⟨b,0,none⟩=some x) (c1:W.cell? ⟨b+1,0,none⟩=some y) (c2:W.cell? ⟨b+1+1,0,none⟩=some z) (hR:R (.returned (.tuple #[x,y,z])) W):Leaves Tryz.prog Tryz.f24 tmps R [] (settle (.panicking [{ v:=u,recovered:=true }])) W:=by
 simp[Leaves,settle,results,Tryz.results24,go_sem,h4,h5,h6,c0,c1,c2]
 exact hR
theorem eval_refused (e:Ex) (x:List Value) (v:V) (vv:Value) (S:Nat→Prop) (w:World) (hS:∀b,S b→b<w.heap.size) (hx:RdES w S e x) (hv:RdS w S v vv) (hz:(checkV v).2≠0):Calls Tryz.prog 24 #[termOf x,vv] w (EvalPost S (evalV e v) w):=by
 have HCk:Hid (∀W,Below w.heap.size w W→Calls Tryz.prog 41 #[vv] W (fun e w'=>e=.returned (.tuple #[.int .i64 (checkV v).1,.int .i64 (checkV v).2])∧Below W.heap.size W w')):=Hd (fun W hW=>check_out v vv W (hv.toR hS hW))
 have HF:Hid (evalV e v=(.nil,0,(checkV v).2)):=Hd (by unfold evalV;rw[if_pos hz])
 generalize checkV v=ck at *
 have hq:((ck.2:Int)!=0)=true:=by rw[bne_iff_ne];omega
 clear hv hz
 obtain ⟨op',a',l',nm',t'⟩:=e
 obtain ⟨A',c',y',rfl,-,-,-,hty,-⟩:=hx
 obtain ⟨m0,m1,m2,m3,m4,m5,m6,m7,m8,m9,m10,rfl,h1c⟩:=hty.elevenS
 clear hty h1c
 unfold termOf at *
 have hB:Below w.heap.size w ((((w.alloc (.cells #[.string op',.int .i64 a',.slice A' l'.length c',.string nm',m0,m1,m2,m3,m4,m5,m6,m7,m8,m9,m10] 32)).alloc (.cells #[.nilIface] 20)).alloc (.cells #[.int .i64 0] 3)).alloc (.cells #[.int .i64 0] 38)):=((bnew.alloc (by simp) _).alloc (by simp;omega) _).alloc (by simp;omega) _
 have HB:=Hd hB
 have HSz:Hid (((((w.alloc (.cells #[.string op',.int .i64 a',.slice A' l'.length c',.string nm',m0,m1,m2,m3,m4,m5,m6,m7,m8,m9,m10] 32)).alloc (.cells #[.nilIface] 20)).alloc (.cells #[.int .i64 0] 3)).alloc (.cells #[.int .i64 0] 38)).heap.size=w.heap.size+4):=Hd (by simp)
 clear hB
 go_enter_defers Tryz.func24,Tryz.ntmps24
 go_wp2_with fail
 refine (HCk.out _ HB.out).mono ?_
 rintro e w1 ⟨rfl,hb1⟩
 have q1:w1.cell? ⟨w.heap.size+1,0,none⟩=some .nilIface:=(hb1.cell (p:=⟨w.heap.size+1,0,none⟩) (by simp)).trans (by simp[go_sem])
 have q2:w1.cell? ⟨w.heap.size+1+1,0,none⟩=some (.int .i64 0):=(hb1.cell (p:=⟨w.heap.size+1+1,0,none⟩) (by simp)).trans (by simp[go_sem])
 have q3:w1.cell? ⟨w.heap.size+1+1+1,0,none⟩=some (.int .i64 0):=(hb1.cell (p:=⟨w.heap.size+1+1+1,0,none⟩) (by simp)).trans (by simp[go_sem])
 have f1:w1.frozen? ⟨w.heap.size+1,0,none⟩=false:=(hb1.frozen (p:=⟨w.heap.size+1,0,none⟩) (by simp)).trans (by simp[go_sem])
 have f2:w1.frozen? ⟨w.heap.size+1+1,0,none⟩=false:=(hb1.frozen (p:=⟨w.heap.size+1+1,0,none⟩) (by simp)).trans (by simp[go_sem])
 have f3:w1.frozen? ⟨w.heap.size+1+1+1,0,none⟩=false:=(hb1.frozen (p:=⟨w.heap.size+1+1+1,0,none⟩) (by simp)).trans (by simp[go_sem])
 go_wp2
 have T:=three_set .nilIface (.int .i64 0) (.int .i64 ck.2) q1 q2 q3
 refine eval_leaves rfl rfl rfl T.1 T.2.1 T.2.2.1 ?_
 rw[HF.out]
 exact ⟨_,rfl,HB.out.trans ((hb1.mono (by rw[HSz.out];omega)).trans (T.2.2.2.mono (by omega))),rfl⟩
theorem Words.below {w W:World} {S:Nat→Prop} {g:Nat} {l:List ByteArray} (h:Words w S g l) (hS:∀b,S b→b<w.heap.size) (hW:Below w.heap.size w W):Words W S g l:=by
 obtain ⟨hg,b,off,c,hb,h1,h2⟩:=h
 exact ⟨hg,b,off,c,hb,(hW.cell (p:=⟨g,0,none⟩) (hS g hg)).trans h1,fun i s hi=>(hW.cell (p:=⟨b,off+i,none⟩) (hS b hb)).trans (h2 i s hi)⟩
theorem aside_below {bw n:Nat} {w w':World} (h:Aside bw w w') (hn:n≤bw):n≤w.heap.size→Below n w w':=fun hs=>⟨h.os,h.tape,h.output,h.size,fun k hk=>h.block k (by omega) (by omega)⟩
theorem eval_invalid (e:Ex) (x:List Value) (v:V) (vv:Value) (S:Nat→Prop) (w:World) (hS:∀b,S b→b<w.heap.size) (hx:RdES w S e x) (hv:RdS w S v vv) (hw:Words w S 1 kindWords) (hw2:Words w S 2 wordList) (hz:(checkV v).2=0) (hval:validV e=false):Calls Tryz.prog 24 #[termOf x,vv] w (EvalPost S (evalV e v) w):=by
 have HCk:Hid (∀W,Below w.heap.size w W→Calls Tryz.prog 41 #[vv] W (fun e w'=>e=.returned (.tuple #[.int .i64 (checkV v).1,.int .i64 (checkV v).2])∧Below W.heap.size W w')):=Hd (fun W hW=>check_out v vv W (hv.toR hS hW))
 have HVa:=Hd (fun (W:World) (hW:Below w.heap.size w W)=>valid_any e x S W (fun b h=>Nat.lt_of_lt_of_le (hS b h) hW.size) (RdES.keep (fun p hp=>hW.cell (hS _ hp)) _ _ hx) (Words.below hw hS hW) (Words.below hw2 hS hW))
 have HF:Hid (evalV e v=(.nil,0,1)):=Hd (by unfold evalV;rw[if_neg (by omega),if_pos hval])
 rw[hz]at HCk
 rw[hval]at HVa
 unfold BoolPost at HVa
 clear hv hz hval hw hw2
 obtain ⟨op',a',l',nm',t'⟩:=e
 obtain ⟨A',c',y',rfl,-,-,-,hty,-⟩:=hx
 obtain ⟨m0,m1,m2,m3,m4,m5,m6,m7,m8,m9,m10,rfl,h1c⟩:=hty.elevenS
 clear hty h1c
 unfold termOf at *
 have hB:Below w.heap.size w ((((w.alloc (.cells #[.string op',.int .i64 a',.slice A' l'.length c',.string nm',m0,m1,m2,m3,m4,m5,m6,m7,m8,m9,m10] 32)).alloc (.cells #[.nilIface] 20)).alloc (.cells #[.int .i64 0] 3)).alloc (.cells #[.int .i64 0] 38)):=((bnew.alloc (by simp) _).alloc (by simp;omega) _).alloc (by simp;omega) _
 have HB:=Hd hB
 have HSz:Hid (((((w.alloc (.cells #[.string op',.int .i64 a',.slice A' l'.length c',.string nm',m0,m1,m2,m3,m4,m5,m6,m7,m8,m9,m10] 32)).alloc (.cells #[.nilIface] 20)).alloc (.cells #[.int .i64 0] 3)).alloc (.cells #[.int .i64 0] 38)).heap.size=w.heap.size+4):=Hd (by simp)
 clear hB
 go_enter_defers Tryz.func24,Tryz.ntmps24
 go_wp2_with fail
 refine (HCk.out _ HB.out).mono ?_
 rintro e w1 ⟨rfl,hb1⟩
 have hbb1:=HB.out.trans (hb1.mono (by rw[HSz.out];omega))
 have qe:=fun (o:Nat)=>hb1.cell (p:=⟨w.heap.size,o,none⟩) (by simp;omega)
 go_wp2_with fail
 refine (HVa.out _ hbb1).mono ?_
 rintro e w2 ⟨rfl,hb2⟩
 have hbb2:=below_then hbb1 (Nat.le_refl _) hb2
 have hb12:=hb1.trans (hb2.mono hb1.size)
 have hsz2:w.heap.size+4≤w2.heap.size:=by have:=hb12.size;rw[HSz.out]at this;exact this
 have q1:w2.cell? ⟨w.heap.size+1,0,none⟩=some .nilIface:=(hb12.cell (p:=⟨w.heap.size+1,0,none⟩) (by simp)).trans (by simp[go_sem])
 have q2:w2.cell? ⟨w.heap.size+1+1,0,none⟩=some (.int .i64 0):=(hb12.cell (p:=⟨w.heap.size+1+1,0,none⟩) (by simp)).trans (by simp[go_sem])
 have q3:w2.cell? ⟨w.heap.size+1+1+1,0,none⟩=some (.int .i64 0):=(hb12.cell (p:=⟨w.heap.size+1+1+1,0,none⟩) (by simp)).trans (by simp[go_sem])
 have f1:w2.frozen? ⟨w.heap.size+1,0,none⟩=false:=(hb12.frozen (p:=⟨w.heap.size+1,0,none⟩) (by simp)).trans (by simp[go_sem])
 have f2:w2.frozen? ⟨w.heap.size+1+1,0,none⟩=false:=(hb12.frozen (p:=⟨w.heap.size+1+1,0,none⟩) (by simp)).trans (by simp[go_sem])
 have f3:w2.frozen? ⟨w.heap.size+1+1+1,0,none⟩=false:=(hb12.frozen (p:=⟨w.heap.size+1+1+1,0,none⟩) (by simp)).trans (by simp[go_sem])
 go_wp2
 have T:=three_set .nilIface (.int .i64 0) (.int .i64 1) q1 q2 q3
 refine eval_leaves rfl rfl rfl T.1 T.2.1 T.2.2.1 ?_
 rw[HF.out]
 exact ⟨_,rfl,hbb2.trans (T.2.2.2.mono (by omega)),rfl⟩
theorem eval_asks (e:Ex) (x:List Value) (v:V) (vv:Value) (S:Nat→Prop) (w:World) (hS:∀b,S b→b<w.heap.size) (hx:RdES w S e x) (hv:RdS w S v vv) (hw:Words w S 1 kindWords) (hw2:Words w S 2 wordList) (hz:(checkV v).2=0) (hval:validV e=true):Calls Tryz.prog 24 #[termOf x,vv] w (EvalPost S (evalV e v) w):=by
 have HCk:Hid (∀W,Below w.heap.size w W→Calls Tryz.prog 41 #[vv] W (fun e w'=>e=.returned (.tuple #[.int .i64 (checkV v).1,.int .i64 (checkV v).2])∧Below W.heap.size W w')):=Hd (fun W hW=>check_out v vv W (hv.toR hS hW))
 have HVa:=Hd (fun (W:World) (hW:Below w.heap.size w W)=>valid_any e x S W (fun b h=>Nat.lt_of_lt_of_le (hS b h) hW.size) (RdES.keep (fun p hp=>hW.cell (hS _ hp)) _ _ hx) (Words.below hw hS hW) (Words.below hw2 hS hW))
 have HF:Hid (evalV e v=match (askV e v 0).1 with | .val x=>(x,0,0) | .gone a why=>(.nil,a,why)):=Hd (by unfold evalV;rw[if_neg (by omega),if_neg (by rw[hval];simp)])
 have HAsk:=Hd (fun (W:World) (bw:Nat) (hW:Below w.heap.size w W) (hlo:w.heap.size≤bw) (hbw:bw<W.heap.size) (hH:Hold W bw 0 (.int .i64 ((0:Nat):Int)))=>ask_any e (canV_ok e 16384 hval) x v vv 0 S W bw (fun b hb=>⟨Nat.lt_of_lt_of_le (hS b hb) hW.size,by have:=hS b hb;omega⟩) hbw (by decide) (RdES.keep (fun p hp=>hW.cell (hS _ hp)) _ _ hx) (hv.to hS hW) (okV_tame (okV_check.2 hz)) (Words.below hw hS hW) hH)
 rw[hz]at HCk
 rw[hval]at HVa
 unfold BoolPost at HVa
 clear hv hz hval hw hw2
 have hmf:∀(fn:Fn) (first cap:Array Value) (w:World),(Instr.makeFunc fn first cap).run Tryz.prog w=.ok (.func fn first cap) w:=fun _ _ _ _=>rfl
 generalize askV e v 0=q at *
 obtain ⟨o,n⟩:=q
 obtain ⟨op',a',l',nm',t'⟩:=e
 obtain ⟨A',c',y',rfl,-,-,-,hty,-⟩:=hx
 obtain ⟨m0,m1,m2,m3,m4,m5,m6,m7,m8,m9,m10,rfl,h1c⟩:=hty.elevenS
 clear hty h1c
 unfold termOf at *
 have hB:Below w.heap.size w ((((w.alloc (.cells #[.string op',.int .i64 a',.slice A' l'.length c',.string nm',m0,m1,m2,m3,m4,m5,m6,m7,m8,m9,m10] 32)).alloc (.cells #[.nilIface] 20)).alloc (.cells #[.int .i64 0] 3)).alloc (.cells #[.int .i64 0] 38)):=((bnew.alloc (by simp) _).alloc (by simp;omega) _).alloc (by simp;omega) _
 have HB:=Hd hB
 have HSz:Hid (((((w.alloc (.cells #[.string op',.int .i64 a',.slice A' l'.length c',.string nm',m0,m1,m2,m3,m4,m5,m6,m7,m8,m9,m10] 32)).alloc (.cells #[.nilIface] 20)).alloc (.cells #[.int .i64 0] 3)).alloc (.cells #[.int .i64 0] 38)).heap.size=w.heap.size+4):=Hd (by simp)
 clear hB
 go_enter_defers Tryz.func24,Tryz.ntmps24
 go_wp2_with fail
 refine (HCk.out _ HB.out).mono ?_
 rintro e w1 ⟨rfl,hb1⟩
 have hbb1:=HB.out.trans (hb1.mono (by rw[HSz.out];omega))
 have qe:=fun (o:Nat)=>hb1.cell (p:=⟨w.heap.size,o,none⟩) (by simp;omega)
 go_wp2_with fail
 refine (HVa.out _ hbb1).mono ?_
 rintro e w2 ⟨rfl,hb2⟩
 have hbb2:=below_then hbb1 (Nat.le_refl _) hb2
 have hb12:=hb1.trans (hb2.mono hb1.size)
 have hsz2:w.heap.size+4≤w2.heap.size:=by have:=hb12.size;rw[HSz.out]at this;exact this
 have hlt2:w.heap.size<w2.heap.size:=by omega
 have qe2:∀(o:Nat),w2.cell? ⟨w.heap.size,o,none⟩=((((w.alloc (.cells #[.string op',.int .i64 a',.slice A' l'.length c',.string nm',m0,m1,m2,m3,m4,m5,m6,m7,m8,m9,m10] 32)).alloc (.cells #[.nilIface] 20)).alloc (.cells #[.int .i64 0] 3)).alloc (.cells #[.int .i64 0] 38)).cell? ⟨w.heap.size,o,none⟩:=fun (o:Nat)=>hb12.cell (p:=⟨w.heap.size,o,none⟩) (by simp;omega)
 have hb3:Below w2.heap.size w2 (w2.alloc (.cells #[.int .i64 0] 100)):=bnew
 have HAs:=Hd (HAsk.out (w2.alloc (.cells #[.int .i64 0] 100)) w2.heap.size (hbb2.trans (hb3.mono hbb2.size)) hbb2.size (by simp) ⟨by simp[go_sem],by simp[go_sem]⟩)
 cases o with
 | gone ga gw =>
  go_wp2_with fail
  refine HAs.out.mono ?_
  rintro e w3 ⟨hA,hH,rfl⟩
  have hs3:w2.heap.size<w3.heap.size:=by have:=hA.size;simp at this;omega
  have hb13:Below w.heap.size w w3:=(hbb2.trans (hb3.mono hbb2.size)).trans (aside_below hA (by omega) (by simp;omega))
  have qq:∀k,k<w.heap.size+4→w3.cell? ⟨k,0,none⟩=((((w.alloc (.cells #[.string op',.int .i64 a',.slice A' l'.length c',.string nm',m0,m1,m2,m3,m4,m5,m6,m7,m8,m9,m10] 32)).alloc (.cells #[.nilIface] 20)).alloc (.cells #[.int .i64 0] 3)).alloc (.cells #[.int .i64 0] 38)).cell? ⟨k,0,none⟩:=fun k hk=>(hA.cell (p:=⟨k,0,none⟩) (by simp;omega) (by show k≠_;omega)).trans ((hb3.cell (p:=⟨k,0,none⟩) (by show k<_;omega)).trans (hb12.cell (p:=⟨k,0,none⟩) (by rw[HSz.out];exact hk)))
  have qf:∀k,k<w.heap.size+4→w3.frozen? ⟨k,0,none⟩=((((w.alloc (.cells #[.string op',.int .i64 a',.slice A' l'.length c',.string nm',m0,m1,m2,m3,m4,m5,m6,m7,m8,m9,m10] 32)).alloc (.cells #[.nilIface] 20)).alloc (.cells #[.int .i64 0] 3)).alloc (.cells #[.int .i64 0] 38)).frozen? ⟨k,0,none⟩:=fun k hk=>(hA.frozen (p:=⟨k,0,none⟩) (by simp;omega) (by show k≠_;omega)).trans ((hb3.frozen (p:=⟨k,0,none⟩) (by show k<_;omega)).trans (hb12.frozen (p:=⟨k,0,none⟩) (by rw[HSz.out];exact hk)))
  have q1:w3.cell? ⟨w.heap.size+1,0,none⟩=some .nilIface:=(qq _ (by omega)).trans (by simp[go_sem])
  have q2:w3.cell? ⟨w.heap.size+1+1,0,none⟩=some (.int .i64 0):=(qq _ (by omega)).trans (by simp[go_sem])
  have q3:w3.cell? ⟨w.heap.size+1+1+1,0,none⟩=some (.int .i64 0):=(qq _ (by omega)).trans (by simp[go_sem])
  have f1:w3.frozen? ⟨w.heap.size+1,0,none⟩=false:=(qf _ (by omega)).trans (by simp[go_sem])
  have f2:w3.frozen? ⟨w.heap.size+1+1,0,none⟩=false:=(qf _ (by omega)).trans (by simp[go_sem])
  have f3:w3.frozen? ⟨w.heap.size+1+1+1,0,none⟩=false:=(qf _ (by omega)).trans (by simp[go_sem])
  clear qq qf
  clear hA hH HAs HAsk
  refine leaves_cons (f:=43) (args:=#[.pointer (some ⟨w.heap.size+1,0,none⟩),.pointer (some ⟨w.heap.size+1+1,0,none⟩),.pointer (some ⟨w.heap.size+1+1+1,0,none⟩)]) (by simp) (by simp[go_sem]) ((catch_fault (w.heap.size+1) ga gw w3 _ _ _ (by omega) q1 f1 q2 f2 q3 f3).mono ?_)
  rintro e u' w4 ⟨rfl,rfl,c0,c1,c2,hb4⟩
  refine eval_leaves2 rfl rfl rfl c0 c1 c2 ?_
  rw[HF.out]
  exact ⟨_,rfl,hb13.trans (hb4.mono (by omega)),rfl⟩
 | val u =>
  go_wp2_with fail
  refine HAs.out.mono ?_
  rintro e w3 ⟨hA,hH,uv,rfl,huv⟩
  have hs3:w2.heap.size<w3.heap.size:=by have:=hA.size;simp at this;omega
  have hb13:Below w.heap.size w w3:=(hbb2.trans (hb3.mono hbb2.size)).trans (aside_below hA (by omega) (by simp;omega))
  have qq:∀k,k<w.heap.size+4→w3.cell? ⟨k,0,none⟩=((((w.alloc (.cells #[.string op',.int .i64 a',.slice A' l'.length c',.string nm',m0,m1,m2,m3,m4,m5,m6,m7,m8,m9,m10] 32)).alloc (.cells #[.nilIface] 20)).alloc (.cells #[.int .i64 0] 3)).alloc (.cells #[.int .i64 0] 38)).cell? ⟨k,0,none⟩:=fun k hk=>(hA.cell (p:=⟨k,0,none⟩) (by simp;omega) (by show k≠_;omega)).trans ((hb3.cell (p:=⟨k,0,none⟩) (by show k<_;omega)).trans (hb12.cell (p:=⟨k,0,none⟩) (by rw[HSz.out];exact hk)))
  have qf:∀k,k<w.heap.size+4→w3.frozen? ⟨k,0,none⟩=((((w.alloc (.cells #[.string op',.int .i64 a',.slice A' l'.length c',.string nm',m0,m1,m2,m3,m4,m5,m6,m7,m8,m9,m10] 32)).alloc (.cells #[.nilIface] 20)).alloc (.cells #[.int .i64 0] 3)).alloc (.cells #[.int .i64 0] 38)).frozen? ⟨k,0,none⟩:=fun k hk=>(hA.frozen (p:=⟨k,0,none⟩) (by simp;omega) (by show k≠_;omega)).trans ((hb3.frozen (p:=⟨k,0,none⟩) (by show k<_;omega)).trans (hb12.frozen (p:=⟨k,0,none⟩) (by rw[HSz.out];exact hk)))
  have q1:w3.cell? ⟨w.heap.size+1,0,none⟩=some .nilIface:=(qq _ (by omega)).trans (by simp[go_sem])
  have q2:w3.cell? ⟨w.heap.size+1+1,0,none⟩=some (.int .i64 0):=(qq _ (by omega)).trans (by simp[go_sem])
  have q3:w3.cell? ⟨w.heap.size+1+1+1,0,none⟩=some (.int .i64 0):=(qq _ (by omega)).trans (by simp[go_sem])
  have f1:w3.frozen? ⟨w.heap.size+1,0,none⟩=false:=(qf _ (by omega)).trans (by simp[go_sem])
  have f2:w3.frozen? ⟨w.heap.size+1+1,0,none⟩=false:=(qf _ (by omega)).trans (by simp[go_sem])
  have f3:w3.frozen? ⟨w.heap.size+1+1+1,0,none⟩=false:=(qf _ (by omega)).trans (by simp[go_sem])
  clear qq qf
  clear hH HAs HAsk
  rcases huv.face with rfl|⟨ty,yy,rfl⟩
  ·go_wp2
   have T:=three_set (.nilIface) (.int .i64 0) (.int .i64 0) q1 q2 q3
   refine leaves_cons (f:=43) (args:=#[.pointer (some ⟨w.heap.size+1,0,none⟩),.pointer (some ⟨w.heap.size+1+1,0,none⟩),.pointer (some ⟨w.heap.size+1+1+1,0,none⟩)]) (by simp) (by simp[go_sem]) ((catch_idle ⟨w.heap.size+1,0,none⟩ ⟨w.heap.size+1+1,0,none⟩ ⟨w.heap.size+1+1+1,0,none⟩ _).mono ?_)
   rintro e u' w4 ⟨rfl,rfl,rfl⟩
   refine eval_leaves rfl rfl rfl T.1 T.2.1 T.2.2.1 ?_
   rw[HF.out]
   refine ⟨_,rfl,hb13.trans (T.2.2.2.mono (by omega)),?_⟩
   refine RdS.more (fun b hb=>?_) u (.nilIface) (RdS.keep (fun p hp=>three_other _ _ _ (fun h=>?_) (fun h=>?_) (fun h=>?_)) u (.nilIface) huv)
   ·rcases hb with hb|hb
    ·exact Or.inl hb
    ·have h1:=hb.1
     have h2:=hb.2
     simp at h1
     exact Or.inr ⟨by omega,by simp;omega⟩
   all_goals
    rcases hp with hp|hp
    ·have:=hS _ hp;omega
    ·have:=hp.1;simp at this;omega
  ·go_wp2
   have T:=three_set (.iface ty yy) (.int .i64 0) (.int .i64 0) q1 q2 q3
   refine leaves_cons (f:=43) (args:=#[.pointer (some ⟨w.heap.size+1,0,none⟩),.pointer (some ⟨w.heap.size+1+1,0,none⟩),.pointer (some ⟨w.heap.size+1+1+1,0,none⟩)]) (by simp) (by simp[go_sem]) ((catch_idle ⟨w.heap.size+1,0,none⟩ ⟨w.heap.size+1+1,0,none⟩ ⟨w.heap.size+1+1+1,0,none⟩ _).mono ?_)
   rintro e u' w4 ⟨rfl,rfl,rfl⟩
   refine eval_leaves rfl rfl rfl T.1 T.2.1 T.2.2.1 ?_
   rw[HF.out]
   refine ⟨_,rfl,hb13.trans (T.2.2.2.mono (by omega)),?_⟩
   refine RdS.more (fun b hb=>?_) u (.iface ty yy) (RdS.keep (fun p hp=>three_other _ _ _ (fun h=>?_) (fun h=>?_) (fun h=>?_)) u (.iface ty yy) huv)
   ·rcases hb with hb|hb
    ·exact Or.inl hb
    ·have h1:=hb.1
     have h2:=hb.2
     simp at h1
     exact Or.inr ⟨by omega,by simp;omega⟩
   all_goals
    rcases hp with hp|hp
    ·have:=hS _ hp;omega
    ·have:=hp.1;simp at this;omega
end Go.Proofs.YtbemeapjeipjlaaGreatDoor
