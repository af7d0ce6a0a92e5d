/- Walks: the value of a term (value.loose), kind by kind. -/
import Derived.Test.YtbemeapjeipjlaaGreatDoorQN05
import Derived.Laws.AppendOwnNone
set_option linter.unusedVariables false
set_option linter.unusedSimpArgs false
set_option linter.unusedSectionVars false
namespace Go.Proofs.YtbemeapjeipjlaaGreatDoor
open Go Go.RowKit
set_option maxRecDepth 100000
set_option maxHeartbeats 8000000
section
variable (b:Bool) (i:Int) (f:Nat) (t:ByteArray) (bs:List UInt8) (r:Int) (l:List Tm) (d:List (ByteArray×Tm)) (c:ByteArray) (v:Int)
theorem loose_1:LooseC (.mk 1 b i f t bs r l d c v):=by
 rintro x w ⟨Ab,cb,Al,cl,Ad,cd,rfl,hk,hi,ht,hbl,⟨hbn,hbs⟩,hr0,hr1,hc,hv,⟨hll,hl⟩,⟨hdl,hd⟩⟩
 clear hbs hl hd
 unfold termOf
 go_enter Tryz.func89,Tryz.ntmps89
 go_wp2
 go_ret
 exact ⟨_,rfl,rfl,bnew⟩
theorem loose_2:LooseC (.mk 2 b i f t bs r l d c v):=by
 rintro x w ⟨Ab,cb,Al,cl,Ad,cd,rfl,hk,hi,ht,hbl,⟨hbn,hbs⟩,hr0,hr1,hc,hv,⟨hll,hl⟩,⟨hdl,hd⟩⟩
 clear hbs hl hd
 unfold termOf
 go_enter Tryz.func89,Tryz.ntmps89
 go_wp2
 go_ret
 exact ⟨_,rfl,rfl,bnew⟩
theorem loose_3:LooseC (.mk 3 b i f t bs r l d c v):=by
 rintro x w ⟨Ab,cb,Al,cl,Ad,cd,rfl,hk,hi,ht,hbl,⟨hbn,hbs⟩,hr0,hr1,hc,hv,⟨hll,hl⟩,⟨hdl,hd⟩⟩
 clear hbs hl hd
 unfold termOf
 go_enter Tryz.func89,Tryz.ntmps89
 go_wp2
 go_ret
 exact ⟨_,rfl,⟨rfl,hi⟩,bnew⟩
theorem loose_4:LooseC (.mk 4 b i f t bs r l d c v):=by
 rintro x w ⟨Ab,cb,Al,cl,Ad,cd,rfl,hk,hi,ht,hbl,⟨hbn,hbs⟩,hr0,hr1,hc,hv,⟨hll,hl⟩,⟨hdl,hd⟩⟩
 clear hbs hl hd
 unfold termOf
 go_enter Tryz.func89,Tryz.ntmps89
 go_wp2
 go_ret
 exact ⟨_,rfl,rfl,bnew⟩
theorem loose_5:LooseC (.mk 5 b i f t bs r l d c v):=by
 rintro x w ⟨Ab,cb,Al,cl,Ad,cd,rfl,hk,hi,ht,hbl,⟨hbn,hbs⟩,hr0,hr1,hc,hv,⟨hll,hl⟩,⟨hdl,hd⟩⟩
 clear hbs hl hd
 unfold termOf
 go_enter Tryz.func89,Tryz.ntmps89
 go_wp2
 go_ret
 exact ⟨_,rfl,⟨rfl,ht⟩,bnew⟩
theorem loose_7:LooseC (.mk 7 b i f t bs r l d c v):=by
 rintro x w ⟨Ab,cb,Al,cl,Ad,cd,rfl,hk,hi,ht,hbl,⟨hbn,hbs⟩,hr0,hr1,hc,hv,⟨hll,hl⟩,⟨hdl,hd⟩⟩
 clear hbs hl hd
 unfold termOf
 go_enter Tryz.func89,Tryz.ntmps89
 go_wp2
 go_ret
 exact ⟨_,rfl,⟨rfl,hr0,hr1⟩,bnew⟩
theorem loose_11:LooseC (.mk 11 b i f t bs r l d c v):=by
 rintro x w ⟨Ab,cb,Al,cl,Ad,cd,rfl,hk,hi,ht,hbl,⟨hbn,hbs⟩,hr0,hr1,hc,hv,⟨hll,hl⟩,⟨hdl,hd⟩⟩
 clear hbs hl hd
 unfold termOf
 go_enter Tryz.func89,Tryz.ntmps89
 go_wp2
 go_ret
 exact ⟨_,rfl,rfl,bnew⟩
theorem loose_9 (ih:∀p∈d,LooseC p.2):LooseC (.mk 9 b i f t bs r l d c v):=by
 rintro x w ⟨Ab,cb,Al,cl,Ad,cd,rfl,hk,hi,ht,hbl,⟨hbn,hbs⟩,hr0,hr1,hc,hv,⟨hll,hl⟩,⟨hdl,hd⟩⟩
 have HD:=Hd (fun (W:World) (hW:Below w.heap.size w W)=>dict_any d ih Ad cd W hdl (EntsAt.more (EntsAt.below hd hW) hW.size))
 clear hbs hl hd ih
 unfold termOf
 go_enter Tryz.func89,Tryz.ntmps89
 go_wp2_with fail
 refine (HD.out _ bnew).mono ?_
 rintro e w1 ⟨A,c1,rfl,hA,hb1⟩
 go_wp2
 go_ret
 refine ⟨_,rfl,⟨A,c1,rfl,by rw[builtD_eq,List.length_map];omega,hA.more (fun b hb=>⟨?_,hb.2⟩)⟩,bnew.trans (hb1.mono (by go_simp))⟩
 have:=hb.1;simp at this;omega
theorem loose_10 (ih:∀p∈d,LooseC p.2):LooseC (.mk 10 b i f t bs r l d c v):=by
 rintro x w ⟨Ab,cb,Al,cl,Ad,cd,rfl,hk,hi,ht,hbl,⟨hbn,hbs⟩,hr0,hr1,hc,hv,⟨hll,hl⟩,⟨hdl,hd⟩⟩
 have HD:=Hd (fun (W:World) (hW:Below w.heap.size w W)=>dict_any d ih Ad cd W hdl (EntsAt.more (EntsAt.below hd hW) hW.size))
 clear hbs hl hd ih
 unfold termOf
 go_enter Tryz.func89,Tryz.ntmps89
 go_wp2_with fail
 refine wp_region_heldS (fun W=>Below (w.heap.size+1) (w.alloc (.cells #[.int .i64 10,.bool b,.int .i64 i,.float .f64 f,.string t,.slice Ab bs.length cb,.int .u64 r,.slice Al l.length cl,.slice Ad d.length cd,.string c,.int .i64 v] 30)) W) 6 (by kernel_rfl) (by kernel_rfl) (fun _ _ _ _ _ h=>h) ?_ ?_
 ·((exact below_drewN (Below.refl _ _) 1))
 simp only[List.take_succ_cons,List.take_zero]
 repeat (refine HdS.step (fun K hK=>?_);go_simp;first|(refine hK _ ?_;clear hK K)|(apply Exists.intro;refine ⟨fun W hW=>?_,hK _ ?_⟩;(first|(intros;rfl)|((obtain ⟨hc,hf⟩:=bcellB hW;go_simp;rfl)));clear hK K))
 refine HdS.nil ?_
 simp only[List.drop_succ_cons,List.drop_zero]
 refine SeqS.step (fun K hK=>?_)
 go_simp
 go_at_call 131
 refine (HD.out _ (below_drewN bnew 1)).mono ?_
 rintro e w1 ⟨A,c1,rfl,hA,hb1⟩
 have hS1:Below (w.heap.size+1) (w.alloc (.cells #[.int .i64 10,.bool b,.int .i64 i,.float .f64 f,.string t,.slice Ab bs.length cb,.int .u64 r,.slice Al l.length cl,.slice Ad d.length cd,.string c,.int .i64 v] 30)) w1:=
  (below_drewN (Below.refl _ _) 1).trans (hb1.mono (by go_simp))
 have hz1:w.heap.size+1≤w1.heap.size:=by have:=hS1.size;simp at this;omega
 have hb2:Below w.heap.size w w1:=bnew.trans (hS1.mono (by omega))
 refine hK _ _ hS1 ?_
 clear hK K
 refine SeqS.step (fun K hK=>?_)
 go_simp
 refine hK _ _ hS1 ?_
 clear hK K
 have hS2:=hS1.alloc hz1 (.cells #[.string c,.int .i64 v,.slice A (builtD d).length c1] 77)
 refine SeqS.step (fun K hK=>?_)
 go_simp
 refine hK _ _ hS2 ?_
 clear hK K
 refine SeqS.step (fun K hK=>?_)
 go_simp
 refine hK _ _ hS2 ?_
 clear hK K
 refine SeqS.step (fun K hK=>?_)
 go_simp
 refine hK _ _ hS2 ?_
 clear hK K
 refine SeqS.nil ?_
 go_wp2
 go_ret
 refine ⟨_,rfl,⟨w1.heap.size,rfl,⟨by omega,by simp⟩,hc,by simp[go_sem],by simp[go_sem],hv.1,hv.2,A,c1,by simp[go_sem],by rw[builtD_eq,List.length_map];omega,?_⟩,hb2.alloc (by omega) _⟩
 refine DictS.more (DictS.keep hA (fun p hp=>?_)) (fun b hb=>?_)
 ·exact ((Below.refl w1.heap.size w1).alloc (Nat.le_refl _) _).cell hp.2
 ·have h1:=hb.1;have h2:=hb.2;simp at h1;exact ⟨by omega,by simp;omega⟩
theorem loose_6:LooseC (.mk 6 b i f t bs r l d c v):=by
 rintro x w ⟨Ab,cb,Al,cl,Ad,cd,rfl,hk,hi,ht,hbl,⟨hbn,hbs⟩,hr0,hr1,hc,hv,⟨hll,hl⟩,⟨hdl,hd⟩⟩
 obtain ⟨i0,hi0,hz0,hz1,hz2⟩:=info_parts Tryz.infoByte
 have hS:Below w.heap.size w ((w.alloc (.cells #[.int .i64 6,.bool b,.int .i64 i,.float .f64 f,.string t,.slice Ab bs.length cb,.int .u64 r,.slice Al l.length cl,.slice Ad d.length cd,.string c,.int .i64 v] 30)).alloc (.cells #[] 5)):=bnew.alloc (by simp) _
 have hown:=ownsRow_empty (w.alloc (.cells #[.int .i64 6,.bool b,.int .i64 i,.float .f64 f,.string t,.slice Ab bs.length cb,.int .u64 r,.slice Al l.length cl,.slice Ad d.length cd,.string c,.int .i64 v] 30)) w.heap.size 5 1 (by simp)
 simp at hown
 have hbs2:=hbs.keep (fun p hp=>hS.cell hp)
 clear hl hd hbs
 cases Ab with
 | none =>
  obtain rfl:=hbn rfl
  have hb0:bs=[]:=by
   rcases hbs2 with h|⟨b,off,h,_⟩
   ·exact h
   ·cases h
  subst hb0
  unfold termOf
  go_enter Tryz.func89,Tryz.ntmps89
  go_wp2
  go_ret
  exact ⟨_,rfl,⟨_,0,rfl,by simp,(fun h=>by cases h),.inl rfl⟩,hS⟩
 | some ad =>
  have hnews:=ByteRow.news hbs2
  unfold termOf
  go_enter Tryz.func89,Tryz.ntmps89
  go_wp2_with (at_builtin;go_must (refine wpList_append_own _ rfl (.tmp 32) (.tmp 34) 24 rfl w.heap.size 5 i0 _ 1 1 Tryz.underlying24 hi0 hz0 hz1 hz2 rfl (by omega) (.slice (some ⟨w.heap.size+1,0,none⟩) 0 0) 0 [] rfl hown ad bs.length cb (bvals bs) rfl (by simp[bvals]) hnews (one_bvals bs) (by simp only[maxLen];omega) (by omega) (by simp;omega) ?_);intro v' w2 hown2 hg2 hnil)
  rw[Nat.zero_add,List.nil_append]at hown2
  obtain ⟨A2,c2,rfl,hA2,hB2⟩:=bytes_of_row hown2
  go_wp2
  go_ret
  exact ⟨_,rfl,⟨A2,c2,rfl,hbl,hA2,hB2⟩,hS.grown hg2 hS.size (fun j hj=>by simp[Value.ownBlock]at hj;omega)⟩
end
theorem loose_8 (b:Bool) (i:Int) (f:Nat) (t:ByteArray) (bs:List UInt8) (r:Int) (l:List Tm) (d:List (ByteArray×Tm)) (c:ByteArray) (v:Int) (ih:∀x∈l,LooseC x):LooseC (.mk 8 b i f t bs r l d c v):=by
 rintro x w ⟨Ab,cb,Al,cl,Ad,cd,rfl,hk,hi,ht,hbl,⟨hbn,hbs⟩,hr0,hr1,hc,hv,⟨hll,hl⟩,⟨hdl,hd⟩⟩
 obtain ⟨i0,hi0,hz0,hz1,hz2⟩:=info_parts Tryz.infoAny
 have HA:Hid (Below w.heap.size w (w.alloc (.cells #[.int .i64 8,.bool b,.int .i64 i,.float .f64 f,.string t,.slice Ab bs.length cb,.int .u64 r,.slice Al l.length cl,.slice Ad d.length cd,.string c,.int .i64 v] 30))):=Hd bnew
 clear hbs hd
 unfold termOf
 go_enter Tryz.func89,Tryz.ntmps89
 go_wp2_with (at_make;go_must (refine wpList_make_own _ rfl _ _ 73 rfl (w.heap.size+1) 20 i0 _ 1 Tryz.underlying73 hi0 hz0 hz1 .i64 .i64 _ l.length rfl rfl rfl (by rw[hz2];omega) (by simp only[maxLen];omega) (by simp) ?_);intro w0 hown0 hg0;have hb0:Below (w.heap.size+1) (w.alloc (.cells #[.int .i64 8,.bool b,.int .i64 i,.float .f64 f,.string t,.slice Ab bs.length cb,.int .u64 r,.slice Al l.length cl,.slice Ad d.length cd,.string c,.int .i64 v] 30)) w0:=(Below.refl _ _).grown hg0 (by simp) (fun _ h=>by cases h);have c70:w0.cell? ⟨w.heap.size,7,none⟩=some (.slice Al l.length cl):=(hb0.cell (p:=⟨w.heap.size,7,none⟩) (Nat.lt_succ_self _)).trans (by simp[go_sem]))
 have hO0:OwnV (fun b=>w.heap.size+1≤b) w0 (w.heap.size+1) (.slice (some ⟨w.heap.size+1,0,none⟩) 0 l.length) []:=⟨[],by simpa using hown0,fun i x h=>by simp at h⟩
 go_loopw [3,51] (fun y j wr=>∃k:Nat,j=.int .i64 k∧k≤l.length∧Below (w.heap.size+1) (w.alloc (.cells #[.int .i64 8,.bool b,.int .i64 i,.float .f64 f,.string t,.slice Ab bs.length cb,.int .u64 r,.slice Al l.length cl,.slice Ad d.length cd,.string c,.int .i64 v] 30)) wr∧OwnV (fun b=>w.heap.size+1≤b) wr (w.heap.size+1) y (builtL (l.take k))) (fun _ j _=>l.length-(intOf j).toNat)
 case atStart=>exact ⟨0,rfl,by omega,hb0,by simpa [builtL] using hO0⟩
 case round =>
  clear hO0 hown0 hg0 c70 hb0
  obtain ⟨k,rfl,hk,hb,hO⟩:=hrel
  obtain ⟨A1,c1,rfl⟩:=hO.form
  have hz:w.heap.size+1≤wr.heap.size:=by have:=hb.size;simp at this;omega
  have hb0:Below w.heap.size w wr:=HA.out.trans (hb.mono (by omega))
  by_cases hlt:k<l.length
  ·obtain ⟨bl,off,rfl,hbB,hr⟩:=TermsAt.at_ hl hlt
   obtain ⟨p,hp⟩:∃p,l[k]?=some p:=⟨_,List.getElem?_eq_getElem hlt⟩
   obtain ⟨vs,e1,hvs⟩:=RdTL.iff.1 hr k p hp
   have HC:=Hd (fun (W:World) (hW:Below wr.heap.size wr W)=>ih p (List.mem_of_getElem? hp) vs W (RdT.more (Nat.le_trans (by omega) hW.size) _ _ (RdT.below hvs (hb0.trans (hW.mono (by omega))))))
   obtain ⟨n0,n1,n2,n3,n4,n5,n6,n7,n8,n9,n10,rfl,h1c⟩:=hvs.eleven
   have e1':=e1.keep (fun p hp=>hb0.cell (by rw[hp];exact hbB))
   obtain ⟨q0,q1,q2,q3,q4,q5,q6,q7,q8,q9,q10⟩:=lie11 e1'
   have hxl:(builtL (l.take k)).length=k:=by rw[builtL_eq];simp;omega
   have HT:Hid (builtL (l.take (k+1))=builtL (l.take k)++[builtV p]):=Hd (by rw[builtL_eq,builtL_eq,List.take_add_one,hp];simp)
   have o0:=fun W a m=>run_store Tryz.prog W a n0 m (h1c n0 (by simp))
   have o1:=fun W a m=>run_store Tryz.prog W a n1 m (h1c n1 (by simp))
   have o2:=fun W a m=>run_store Tryz.prog W a n2 m (h1c n2 (by simp))
   have o3:=fun W a m=>run_store Tryz.prog W a n3 m (h1c n3 (by simp))
   have o4:=fun W a m=>run_store Tryz.prog W a n4 m (h1c n4 (by simp))
   have o5:=fun W a m=>run_store Tryz.prog W a n5 m (h1c n5 (by simp))
   have o6:=fun W a m=>run_store Tryz.prog W a n6 m (h1c n6 (by simp))
   have o7:=fun W a m=>run_store Tryz.prog W a n7 m (h1c n7 (by simp))
   have o8:=fun W a m=>run_store Tryz.prog W a n8 m (h1c n8 (by simp))
   have o9:=fun W a m=>run_store Tryz.prog W a n9 m (h1c n9 (by simp))
   have o10:=fun W a m=>run_store Tryz.prog W a n10 m (h1c n10 (by simp))
   have hbv:Below wr.heap.size wr (wr.alloc (.cells #[n0,n1,n2,n3,n4,n5,n6,n7,n8,n9,n10] 30)):=bnew
   clear hp e1 e1' hvs hr hl ih h1c
   go_wp2_with fail
   refine (HC.out _ hbv).mono ?_
   rintro e w1 ⟨u,rfl,hu,hb1⟩
   have hbw:Below wr.heap.size wr w1:=hbv.trans (hb1.mono (by simp))
   have hz1':wr.heap.size≤w1.heap.size:=hbw.size
   have hba:Below w1.heap.size w1 (w1.alloc (.cells #[u] 20)):=bnew
   have hbx:Below wr.heap.size wr (w1.alloc (.cells #[u] 20)):=hbw.trans (hba.mono hz1')
   have hS2:=hb.trans (hbx.mono hz)
   have hO2:=hO.below hbx
   obtain ⟨xs0,hown0,_⟩:=hO
   rw[hxl]at hown0
   have hu1:RdS w1 (New wr w1) (builtV p) u:=RdS.more (fun b hb=>⟨by have:=hb.1;simp at this;omega,hb.2⟩) _ _ hu
   have hu2:=fresh_of_new (F:=fun b=>w.heap.size+1≤b) hu1 hba (fun b h=>Nat.le_trans hz h) hown0
   obtain ⟨xs,hown,hx⟩:=hO2
   rw[hxl]at hown
   rw[hxl]at hx
   have hou:=hu.one
   have hz3:w.heap.size+1≤(w1.alloc (.cells #[u] 20)).heap.size:=by simp;omega
   rcases hu.face with rfl|⟨ty,y,rfl⟩
   all_goals
    clear hu hu1
    go_wp2_with (at_builtin;go_must (refine wpList_append_lies _ rfl (.tmp 55) (.tmp 58) 73 rfl (w.heap.size+1) 20 i0 _ 1 16 Tryz.underlying73 hi0 hz0 hz1 hz2 rfl (by omega) (.slice A1 k c1) k xs rfl hown ⟨w1.heap.size,0,none⟩ 1 1 [_] rfl rfl (news_at rfl) (one_of1 hou) (by omega) (by simp only[maxLen];omega) (by omega) hz3 _ rfl ?_);intro g cap w2 hown2 hg2 hat hlt2)
    refine ⟨⟨k+1,rfl,hlt,hS2.grown hg2 hz3 (fun j hj=>(hown.lt j hj).1),?_⟩,?_⟩
    ·rw[HT.out];exact OwnV.snoc hxl hown hx hu2 hown2 hg2 hat
    ·simp[intOf];omega
  ·obtain rfl:k=l.length:=by omega
   rw[List.take_length]at hO ⊢
   have hbl:(builtL l).length=l.length:=by rw[builtL_eq];simp
   have hR:=hO.read (by omega)
   rw[hbl]at hR
   clear hO
   go_wp2
   go_ret
   exact ⟨_,rfl,RdS.more (fun b hb=>⟨hb.1.elim (fun h=>by omega) (fun h=>by omega),hb.2⟩) _ _ hR,hb0⟩
theorem loose_other (k:Int) (b:Bool) (i:Int) (f:Nat) (t:ByteArray) (bs:List UInt8) (r:Int) (l:List Tm) (d:List (ByteArray×Tm)) (c:ByteArray) (v:Int) (hk:k≠1∧k≠2∧k≠3∧k≠4∧k≠5∧k≠6∧k≠7∧k≠8∧k≠9∧k≠10∧k≠11):LooseC (.mk k b i f t bs r l d c v):=by
 rintro x w ⟨Ab,cb,Al,cl,Ad,cd,rfl,-,hi,ht,hbl,⟨hbn,hbs⟩,hr0,hr1,hc,hv,⟨hll,hl⟩,⟨hdl,hd⟩⟩
 have HF:Hid (builtV (.mk k b i f t bs r l d c v)=.alien):=Hd (by obtain ⟨h1,h2,h3,h4,h5,h6,h7,h8,h9,h10,h11⟩:=hk;simp[builtV, *])
 have kq:=fun j (h:k≠j)=>(beq_eq_false_iff_ne (a:=k) (b:=j)).2 h
 obtain ⟨h1,h2,h3,h4,h5,h6,h7,h8,h9,h10,h11⟩:=hk
 have g1:=kq _ h1
 have g2:=kq _ h2
 have g3:=kq _ h3
 have g4:=kq _ h4
 have g5:=kq _ h5
 have g6:=kq _ h6
 have g7:=kq _ h7
 have g8:=kq _ h8
 have g9:=kq _ h9
 have g10:=kq _ h10
 have g11:=kq _ h11
 clear h1 h2 h3 h4 h5 h6 h7 h8 h9 h10 h11 kq hbs hl hd
 unfold termOf
 go_enter Tryz.func89,Tryz.ntmps89
 go_wp2
 go_ret
 rw[HF.out]
 exact alien_of rfl bnew
theorem loose_any (x:Tm):LooseC x:=by
 induction x using Tm.ind with
 | h k b i f t bs r l d c v ihl ihd =>
  by_cases h1:k=1
  ·subst h1;exact loose_1 b i f t bs r l d c v
  by_cases h2:k=2
  ·subst h2;exact loose_2 b i f t bs r l d c v
  by_cases h3:k=3
  ·subst h3;exact loose_3 b i f t bs r l d c v
  by_cases h4:k=4
  ·subst h4;exact loose_4 b i f t bs r l d c v
  by_cases h5:k=5
  ·subst h5;exact loose_5 b i f t bs r l d c v
  by_cases h6:k=6
  ·subst h6;exact loose_6 b i f t bs r l d c v
  by_cases h7:k=7
  ·subst h7;exact loose_7 b i f t bs r l d c v
  by_cases h8:k=8
  ·subst h8;exact loose_8 b i f t bs r l d c v ihl
  by_cases h9:k=9
  ·subst h9;exact loose_9 b i f t bs r l d c v ihd
  by_cases h10:k=10
  ·subst h10;exact loose_10 b i f t bs r l d c v ihd
  by_cases h11:k=11
  ·subst h11;exact loose_11 b i f t bs r l d c v
  exact loose_other k b i f t bs r l d c v ⟨h1,h2,h3,h4,h5,h6,h7,h8,h9,h10,h11⟩
def OfPost (T:Tm) (w:World) (e:Ending) (w':World):Prop:=
 ∃v,e=.returned (.tuple #[v,.int .i64 (checkV (builtV T)).2])∧Below w.heap.size w w'∧((checkV (builtV T)).2=0→RdS w' (New w w') (builtV T) v)∧((checkV (builtV T)).2≠0→v=.nilIface)
theorem of_any (T:Tm) (x:List Value) (w:World) (hx:RdT w w.heap.size T x):Calls Tryz.prog 58 #[termOf x] w (OfPost T w):=by
 have HL:=Hd (fun (W:World) (hW:Below w.heap.size w W)=>loose_any T x W (RdT.more hW.size _ _ (RdT.below hx hW)))
 obtain ⟨n0,n1,n2,n3,n4,n5,n6,n7,n8,n9,n10,rfl,h1c⟩:=hx.eleven
 clear hx h1c
 unfold termOf at *
 go_enter Tryz.func58,Tryz.ntmps58
 go_wp2_with fail
 refine (HL.out _ bnew).mono ?_
 rintro e w1 ⟨u,rfl,hu,hb1⟩
 have hb0:Below w.heap.size w w1:=bnew.trans (hb1.mono (by simp))
 have HC:=Hd (check_any (builtV T) u w1 (RdS.more (fun b hb=>hb.2) _ _ hu))
 have hu2:RdS w1 (New w w1) (builtV T) u:=RdS.more (fun b hb=>⟨by have:=hb.1;simp at this;omega,hb.2⟩) _ _ hu
 generalize hck:checkV (builtV T)=ck at *
 have HP:Hid (CheckPost (builtV T) w1=fun e w'=>e=.returned (.tuple #[.int .i64 ck.1,.int .i64 ck.2])∧Below w1.heap.size w1 w'):=Hd (by funext e w';unfold CheckPost;rw[hck])
 rw[HP.out]at HC
 replace hck:=Hd hck
 clear HP hu
 by_cases hz:ck.2=0
 ·have hz1:((ck.2:Int)!=0)=false:=by rw[hz];rfl
  go_wp2_with fail
  refine HC.out.mono ?_
  rintro e w2 ⟨rfl,hb2⟩
  go_wp2
  go_ret2
  exact ⟨u,by rw[hck.out,hz];rfl,hb0.trans (hb2.mono hb0.size),fun _=>RdS.more (fun b hb=>⟨hb.1,Nat.lt_of_lt_of_le hb.2 hb2.size⟩) _ _ (RdS.keep (fun p hp=>hb2.cell hp.2) _ _ hu2),fun h=>absurd (by rw[hck.out];exact hz) h⟩
 ·have hz1:((ck.2:Int)!=0)=true:=by rw[bne_iff_ne];omega
  go_wp2_with fail
  refine HC.out.mono ?_
  rintro e w2 ⟨rfl,hb2⟩
  go_wp2
  go_ret2
  exact ⟨.nilIface,by rw[hck.out];rfl,hb0.trans (hb2.mono hb0.size),fun h=>absurd (by rw[←hck.out];exact h) hz,fun _=>rfl⟩
mutual
def fineV:V→Prop
 | .list l=>fineL l
 | .dict l=>fineD l
 | .record _ _ l=>fineD l
 | .nothing=>False
 | .alien=>False
 | .nil=>True
 | .bool _=>True
 | .int _=>True
 | .flt _=>True
 | .text _=>True
 | .bytes _=>True
 | .ref _=>True
def fineL:List V→Prop
 | []=>True
 | x :: r=>fineV x∧fineL r
def fineD:List (ByteArray×V)→Prop
 | []=>True
 | (_,x) :: r=>fineV x∧fineD r
end
theorem fineL_iff {l:List V}:fineL l↔∀x∈l,fineV x:=by
 induction l with
 | nil=>simp[fineL]
 | cons x r ih=>simp[fineL,ih]
theorem fineD_iff {l:List (ByteArray×V)}:fineD l↔∀p∈l,fineV p.2:=by
 induction l with
 | nil=>simp[fineD]
 | cons x r ih=>obtain ⟨n,x⟩:=x;simp[fineD,ih]
def CopyC (x:V):Prop:=fineV x→∀(v:Value) (w:World),Rd w w.heap.size x v→Calls Tryz.prog 46 #[v] w (BuiltPost x w)
theorem copiedDict_any (l:List (ByteArray×V)) (ih:∀p∈l,CopyC p.2) (hf:fineD l) (A:Option Addr) (c:Nat) (w:World) (hl:l.length≤1099511627776) (hD:DictAt w w.heap.size A l) :
  Calls Tryz.prog 72 #[.slice A l.length c] w (DictPost l w):=by
 obtain ⟨i0,hi,hz0,hz1,hz2⟩:=info_parts Tryz.infoField
 go_enter Tryz.func72,Tryz.ntmps72
 go_wp2_with (at_make;go_must (refine wpList_make_own _ rfl _ _ 46 rfl w.heap.size 44 i0 _ 2 Tryz.underlying46 hi hz0 hz1 .i64 .i64 _ l.length rfl rfl rfl (by rw[hz2];omega) (by simp only[maxLen];omega) (Nat.le_refl _) ?_);intro w0 hown0 hg0)
 have hO0:OwnD (fun b=>w.heap.size≤b) w0 w.heap.size (.slice (some ⟨w.heap.size,0,none⟩) 0 l.length) []:=⟨[],hown0,fun i x h=>by simp at h⟩
 have hb0:Below w.heap.size w w0:=(Below.refl _ _).grown hg0 (Nat.le_refl _) (fun _ h=>by cases h)
 go_wp2
 go_loopw [3,11] (fun v i wr=>∃k:Nat,i=.int .i64 k∧k≤l.length∧Below w.heap.size w wr∧OwnD (fun b=>w.heap.size≤b) wr w.heap.size v (l.take k)) (fun _ i _=>l.length-(intOf i).toNat)
 case atStart=>exact ⟨0,rfl,by omega,hb0,by simpa using hO0⟩
 case round =>
  clear hO0 hown0 hg0 hb0
  obtain ⟨k,rfl,hk,hb,hO⟩:=hrel
  obtain ⟨A1,c1,rfl⟩:=hO.form
  by_cases hlt:k<l.length
  ·obtain ⟨b,off,rfl,hbB,hr⟩:=hD.at_ hlt
   have hz:=hb.size
   obtain ⟨p,hp⟩:∃p,l[k]?=some p:=⟨_,List.getElem?_eq_getElem hlt⟩
   obtain ⟨e0,hps,n0,e1,hv⟩:=RdD.iff.1 hr k p hp
   have HC:=Hd (fun (W:World) (hW:Below wr.heap.size wr W)=>ih p (List.mem_of_getElem? hp) (fineD_iff.1 hf p (List.mem_of_getElem? hp)) n0 W ((hv.below (hb.trans (hW.mono hz))).more (fun b h=>Nat.lt_of_lt_of_le h (Nat.le_trans hz hW.size))))
   have q0:=(hb.cell (p:=⟨b,off+k*2,none⟩) hbB).trans e0
   have q1:=(hb.cell (p:=⟨b,off+k*2+1,none⟩) hbB).trans e1
   have hb2:b<wr.heap.size:=by omega
   have hxl:(l.take k).length=k:=by simp;omega
   have HT:Hid (l.take (k+1)=l.take k++[(p.1,p.2)]):=Hd (by rw[List.take_add_one,hp];simp)
   have o0:=fun W a m=>run_store Tryz.prog W a n0 m hv.one
   have hbv:Below wr.heap.size wr (wr.alloc (.cells #[.string p.1,n0] 44)):=bnew
   clear hp hv hr hD ih hf e0 e1
   go_wp2
   refine wp_region_heldS (fun W=>∀o,W.cell? ⟨wr.heap.size,o,none⟩=(wr.alloc (.cells #[.string p.1,n0] 44)).cell? ⟨wr.heap.size,o,none⟩) 5 (by kernel_rfl) (by kernel_rfl) (fun _ _ _ _ _ h=>h) ?_ ?_
   ·((exact fun _=>rfl))
   simp only[List.take_succ_cons,List.take_zero]
   repeat (refine HdS.step (fun K hK=>?_);go_simp;first|(refine hK _ ?_;clear hK K)|(apply Exists.intro;refine ⟨fun W hW=>?_,hK _ ?_⟩;(first|(intros;rfl)|((go_simp;rfl)));clear hK K))
   refine HdS.nil ?_
   simp only[List.drop_succ_cons,List.drop_zero]
   refine SeqS.step (fun K hK=>?_)
   go_simp
   go_at_call 46
   refine (HC.out _ (below_drewN hbv 1)).mono ?_
   rintro e w1 ⟨u,rfl,hu,hb1⟩
   have hS1:Below (wr.heap.size+1) (wr.alloc (.cells #[.string p.1,n0] 44)) w1:=(below_drewN (Below.refl _ _) 1).trans (hb1.mono (by go_simp))
   have hT1:∀o,w1.cell? ⟨wr.heap.size,o,none⟩=(wr.alloc (.cells #[.string p.1,n0] 44)).cell? ⟨wr.heap.size,o,none⟩:=fun o=>hS1.cell (p:=⟨wr.heap.size,o,none⟩) (Nat.lt_succ_self _)
   refine hK _ _ hT1 ?_
   clear hK K
   have hbw:Below wr.heap.size wr w1:=hbv.trans (hS1.mono (by omega))
   have hz1':wr.heap.size≤w1.heap.size:=hbw.size
   have hz2':wr.heap.size+1≤w1.heap.size:=by have:=hS1.size;simp at this;omega
   have hba:Below w1.heap.size w1 (w1.alloc (.cells #[.string p.1,u] 44)):=bnew
   have hbx:Below wr.heap.size wr (w1.alloc (.cells #[.string p.1,u] 44)):=hbw.trans (hba.mono hz1')
   have hS2:Below w.heap.size w (w1.alloc (.cells #[.string p.1,u] 44)):=hb.trans (hbx.mono hz)
   have hS3:=hS1.alloc hz2' (.cells #[.string p.1,u] 44)
   have hT3:∀o,(w1.alloc (.cells #[.string p.1,u] 44)).cell? ⟨wr.heap.size,o,none⟩=(wr.alloc (.cells #[.string p.1,n0] 44)).cell? ⟨wr.heap.size,o,none⟩:=fun o=>hS3.cell (p:=⟨wr.heap.size,o,none⟩) (Nat.lt_succ_self _)
   have hO2:=hO.below hbx
   obtain ⟨xs0,hown0,_⟩:=hO
   rw[hxl]at hown0
   have hu1:RdS w1 (New wr w1) p.2 u:=RdS.more (fun b hb=>⟨by have:=hb.1;simp at this;omega,hb.2⟩) _ _ hu
   have hu2:=fresh_of_new (F:=fun b=>w.heap.size≤b) hu1 hba (fun b h=>Nat.le_trans hz h) hown0
   obtain ⟨xs,hown,hx⟩:=hO2
   rw[hxl]at hown
   rw[hxl]at hx
   have hou:=hu.one
   rcases hu.face with rfl|⟨ty,y,rfl⟩
   all_goals
    clear hu hu1
    refine SeqS.step (fun K hK=>?_)
    go_simp
    refine hK _ _ hT1 ?_
    clear hK K
    refine SeqS.step (fun K hK=>?_)
    go_simp
    refine hK _ _ hT3 ?_
    clear hK K
    refine SeqS.plain rfl (fun K hK=>?_)
    refine wp_append_lies _ (.tmp 15) (.tmp 22) 46 rfl w.heap.size 44 i0 _ 2 32 Tryz.underlying46 hi hz0 hz1 hz2 rfl (by omega) (.slice A1 k c1) k xs rfl hown ⟨w1.heap.size,0,none⟩ 1 1 [.string p.1,_] rfl rfl (news_at rfl) (one_of2 rfl hou) (by omega) (by simp only[maxLen];omega) (by omega) hS2.size _ rfl ?_
    intro g cap w2 hown2 hg2 hat hlt2
    have hO3:=OwnD.snoc hxl hown hx hps hu2 hown2 hg2 hat
    have hS4:Below w.heap.size w w2:=hS2.grown hg2 hS2.size (fun j hj=>(hown.lt j hj).1)
    have hT4:∀o,w2.cell? ⟨wr.heap.size,o,none⟩=(wr.alloc (.cells #[.string p.1,n0] 44)).cell? ⟨wr.heap.size,o,none⟩:=fun o =>
     (World.cell?_of_block (a:=⟨wr.heap.size,o,none⟩) (hg2.block wr.heap.size (by simp;omega) (fun e=>by have:=(hown0.lt _ e.symm).2;omega))).trans (hT3 o)
    refine hK _ _ hT4 ?_
    clear hK K
    refine SeqS.step (fun K hK=>?_)
    go_simp
    refine hK _ _ hT4 ?_
    clear hK K
    refine SeqS.nil ?_
    go_wp2
    refine ⟨⟨k+1,rfl,hlt,hS4,by rw[HT.out];exact hO3⟩,?_⟩
    simp[intOf];omega
  ·obtain rfl:k=l.length:=by omega
   rw[List.take_length]at hO ⊢
   obtain ⟨A2,c2,e2,hr⟩:=hO.read
   injection e2 with e2 _ e3
   subst e2;subst e3
   clear hO
   go_wp2
   go_ret
   exact ⟨A1,c1,rfl,hr.more (fun b hb=>⟨hb.1.elim id id,hb.2⟩),hb⟩
end Go.Proofs.YtbemeapjeipjlaaGreatDoor
