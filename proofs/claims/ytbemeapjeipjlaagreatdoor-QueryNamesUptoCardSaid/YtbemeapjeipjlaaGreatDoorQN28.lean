/- Walks of the reference's query: with. -/
import Derived.Test.YtbemeapjeipjlaaGreatDoorQN27
import Derived.Test.YtbemeapjeipjlaaGreatDoorQN26
import Derived.Defers
import Derived.Recover
set_option linter.unusedVariables false
set_option linter.unusedSimpArgs false
namespace Go.Proofs.YtbemeapjeipjlaaGreatDoor
open Go Go.RowKit
set_option maxRecDepth 100000
set_option maxHeartbeats 8000000
theorem Tryz.infoStr2:(Tryz.prog.info? 9).map (fun i=>(i.zero,i.size,i.bytes))=some (some (.string ⟨#[]⟩),1,16):=by kernel_rfl
def svals (l:List ByteArray):List Value:=l.map Value.string
def WordsAt (w:World) (S:Nat→Prop) (A:Option Addr) (l:List ByteArray):Prop:=l=[]∨∃b off,A=some ⟨b,off,none⟩∧S b∧∀(i:Nat) t,l[i]?=some t→w.cell? ⟨b,off+i,none⟩=some (.string t)
theorem WordsAt.keep {w w':World} {S:Nat→Prop} {A:Option Addr} {l:List ByteArray} (h:WordsAt w S A l) (hk:∀p:Addr,S p.block→w'.cell? p=w.cell? p):WordsAt w' S A l:=by
 refine h.imp id ?_
 rintro ⟨b,off,h1,h2,h3⟩
 exact ⟨b,off,h1,h2,fun i t hi=>(hk _ h2).trans (h3 i t hi)⟩
theorem WordsAt.more {w:World} {S S':Nat→Prop} {A:Option Addr} {l:List ByteArray} (h:WordsAt w S A l) (hS:∀b,S b→S' b):WordsAt w S' A l:=by
 refine h.imp id ?_
 rintro ⟨b,off,h1,h2,h3⟩
 exact ⟨b,off,h1,hS _ h2,h3⟩
theorem words_own {w:World} {B:Nat} {v:Value} {l:List ByteArray} (h:w.ownsRow B 9 1 v l.length (svals l)):∃A c,v=.slice A l.length c∧WordsAt w (fun b=>B≤b∧b<w.heap.size) A l:=by
 obtain ⟨A,c,rfl⟩:=ownsRow_form h
 refine ⟨A,c,rfl,?_⟩
 rcases h.2 with ⟨h1,h2⟩|⟨g,cap,cur,he,hg,hgg,rest⟩
 ·injection h1 with h3 h4 h5
  exact .inl (List.length_eq_zero_iff.1 h4)
 ·injection he with h3 h4 h5
  subst h3
  refine .inr ⟨g,0,rfl,⟨hg,(Array.getElem?_eq_some_iff.1 hgg).1⟩,fun i t hi=>?_⟩
  have:=h.cells (g:=g) rfl i (.string t) (by simp[svals,hi])
  rw[Addr.add_lit]at this
  exact this
def WithPost (L:List ByteArray) (s:ByteArray) (S:Nat→Prop) (w:World) (e:Ending) (w':World):Prop:=∃A c L',e=.returned (.slice A L'.length c)∧WordsAt w' (fun b=>S b∨New w w' b) A L'∧Hid (∀t,t∈L'↔t=s∨t∈L)∧L'.length≤L.length+1∧Below w.heap.size w w'
theorem with_any (L:List ByteArray) (A:Option Addr) (c:Nat) (s:ByteArray) (S:Nat→Prop) (w:World) (hS:∀b,S b→b<w.heap.size) (hL:L.length≤16384) (hA:WordsAt w S A L):Calls Tryz.prog 36 #[.slice A L.length c,.string s] w (WithPost L s S w):=by
 obtain ⟨i0,hi0,hz0,hz1,hz2⟩:=info_parts Tryz.infoStr2
 have HA:Hid (Below w.heap.size w (w.alloc (.cells #[] 9))):=Hd bnew
 go_enter Tryz.func36,Tryz.ntmps36
 go_wp2
 go_loopw [5,6,7] (fun v dn jx wr=>∃(k:Nat) (acc:List ByteArray) (done:Bool),jx=.int .i64 k∧dn=.bool done∧k≤L.length∧Below w.heap.size w wr∧w.heap.size+1≤wr.heap.size∧wr.ownsRow w.heap.size 9 1 v acc.length (svals acc)∧acc.length≤k+1∧(done=false→acc.length≤k)∧Hid ((done=false→∀t,t∈acc↔t∈L.take k)∧(done=true→∀t,t∈acc↔t=s∨t∈L.take k))) (fun _ _ jx _=>L.length-(intOf jx).toNat)
 case atStart =>
  refine ⟨0,[],false,rfl,rfl,by omega,HA.out,by simp,?_,by simp,by simp,Hd ⟨by simp,by simp⟩⟩
  exact ownsRow_empty w w.heap.size 9 1 (Nat.le_refl _)
 case round =>
  obtain ⟨k,acc,done,rfl,rfl,hk,hb,hz,ho,hl1,hl2,HM⟩:=hrel
  by_cases hlt:k<L.length
  ·obtain ⟨bk,off,rfl,hSb,hc⟩:=hA.resolve_left (fun h=>by rw[h]at hlt;simp at hlt)
   have hbB:=hS _ hSb
   have hbk:bk<wr.heap.size:=by omega
   obtain ⟨x,hx⟩:∃x,L[k]?=some x:=⟨_,List.getElem?_eq_getElem hlt⟩
   have hc0:=hc k x hx
   have d0:=(hb.cell (p:=⟨bk,off+k,none⟩) hbB).trans (hc k x hx)
   have HT:Hid (L.take (k+1)=L.take k++[x]):=Hd (by rw[List.take_add_one,hx];simp)
   have HX:=Hd (List.mem_of_getElem? hx)
   clear hx
   cases hq:(x.toList==s.toList)
   ·obtain ⟨A1,c1,rfl⟩:=ownsRow_form ho
    cases done
    ·have hl3:=hl2 rfl
     have HM1:=Hd (HM.out.1 rfl)
     clear HM hl2
     cases hg:Op.bytesLess x.toList s.toList
     ·clear hA
      go_wp2_with (at_builtin;first|((refine wpList_append_lies _ rfl (.tmp 32) (.tmp 34) 33 rfl w.heap.size 9 i0 _ 1 16 Tryz.underlying33 hi0 hz0 hz1 hz2 rfl (by omega) (.slice A1 acc.length c1) acc.length (svals acc) rfl (ownsRow_below ho bnew) ⟨wr.heap.size,0,none⟩ 1 1 [.string s] rfl rfl (news_at rfl) (by simp[Value.oneCell']) (by omega) (by simp only[maxLen];omega) (by omega) (by simp;omega) _ rfl ?_);intro g cap w2 hown2 hg2 hat hlt2;have hB2:=(hb.trans (((Below.refl wr.heap.size wr).alloc (Nat.le_refl _) (.cells #[.string s] 9)).mono (show w.heap.size≤wr.heap.size by omega))).grown hg2 (by simp;omega) (fun j hj=>(ho.lt j hj).1);have hz2w:w.heap.size+1≤w2.heap.size:=(by have:=hg2.size;simp at this;omega);have d2:=(hB2.cell (p:=⟨bk,off+k,none⟩) hbB).trans hc0;have hlb2:bk<w2.heap.size:=(by omega))|((refine wpList_append_lies _ rfl (.tmp 36) (.tmp 41) 33 rfl w.heap.size 9 i0 _ 1 16 Tryz.underlying33 hi0 hz0 hz1 hz2 rfl (by omega) (.slice (some ⟨g,0,none⟩) (acc.length+1) cap) (acc.length+1) (svals acc++[.string s]) rfl (ownsRow_below hown2 bnew) ⟨w2.heap.size,0,none⟩ 1 1 [.string x] rfl rfl (news_at rfl) (by simp[Value.oneCell']) (by omega) (by simp only[maxLen];omega) (by omega) (by simp;omega) _ rfl ?_);intro g3 cap3 w3 hown3 hg3 hat3 hlt3))
      have hB3:=(hB2.trans (((Below.refl w2.heap.size w2).alloc (Nat.le_refl _) (.cells #[.string x] 9)).mono (show w.heap.size≤w2.heap.size by omega))).grown hg3 (by simp;omega) (fun j hj=>(hown2.lt j hj).1)
      refine ⟨⟨k+1,acc++[s,x],true,rfl,rfl,hlt,hB3,by have:=hg3.size;simp at this;omega,by simpa [svals] using hown3,by simp;omega,by simp,Hd ⟨by simp,fun _ t=>by rw[HT.out];simp[HM1.out t];grind⟩⟩,?_⟩
      simp[intOf]
      omega
     ·clear hA
      go_wp2_with (at_builtin;go_must (refine wpList_append_lies _ rfl (.tmp 36) (.tmp 41) 33 rfl w.heap.size 9 i0 _ 1 16 Tryz.underlying33 hi0 hz0 hz1 hz2 rfl (by omega) (.slice A1 acc.length c1) acc.length (svals acc) rfl (ownsRow_below ho bnew) ⟨wr.heap.size,0,none⟩ 1 1 [.string x] rfl rfl (news_at rfl) (by simp[Value.oneCell']) (by omega) (by simp only[maxLen];omega) (by omega) (by simp;omega) _ rfl ?_);intro g cap w2 hown2 hg2 hat hlt2)
      have hB2:=(hb.trans (((Below.refl wr.heap.size wr).alloc (Nat.le_refl _) (.cells #[.string x] 9)).mono (show w.heap.size≤wr.heap.size by omega))).grown hg2 (by simp;omega) (fun j hj=>(ho.lt j hj).1)
      refine ⟨⟨k+1,acc++[x],false,rfl,rfl,hlt,hB2,by have:=hg2.size;simp at this;omega,by simpa [svals] using hown2,by simp;omega,by simp;omega,Hd ⟨fun _ t=>by rw[HT.out];simp[HM1.out t],by simp⟩⟩,?_⟩
      simp[intOf]
      omega
    ·have HM1:=Hd (HM.out.2 rfl)
     clear HM hl2 hA
     go_wp2_with (at_builtin;go_must (refine wpList_append_lies _ rfl (.tmp 36) (.tmp 41) 33 rfl w.heap.size 9 i0 _ 1 16 Tryz.underlying33 hi0 hz0 hz1 hz2 rfl (by omega) (.slice A1 acc.length c1) acc.length (svals acc) rfl (ownsRow_below ho bnew) ⟨wr.heap.size,0,none⟩ 1 1 [.string x] rfl rfl (news_at rfl) (by simp[Value.oneCell']) (by omega) (by simp only[maxLen];omega) (by omega) (by simp;omega) _ rfl ?_);intro g cap w2 hown2 hg2 hat hlt2)
     have hB2:=(hb.trans (((Below.refl wr.heap.size wr).alloc (Nat.le_refl _) (.cells #[.string x] 9)).mono (show w.heap.size≤wr.heap.size by omega))).grown hg2 (by simp;omega) (fun j hj=>(ho.lt j hj).1)
     refine ⟨⟨k+1,acc++[x],true,rfl,rfl,hlt,hB2,by have:=hg2.size;simp at this;omega,by simpa [svals] using hown2,by simp;omega,by simp,Hd ⟨by simp,fun _ t=>by rw[HT.out];simp[HM1.out t];grind⟩⟩,?_⟩
     simp[intOf]
     omega
   ·go_wp2
    go_ret
    have hxs:x=s:=by
     have h:=eq_of_beq hq
     rw[bytes_toList,bytes_toList]at h
     cases x;cases s
     exact congrArg _ (Array.ext' h)
    refine ⟨_,c,L,rfl,(hA.keep (fun p hp=>hb.cell (hS _ hp))).more (fun b h=>.inl h),Hd (fun t=>⟨fun h=>.inr h,fun h=>h.elim (fun e=>by rw[e,←hxs];exact HX.out) id⟩),by omega,hb⟩
  ·obtain rfl:k=L.length:=by omega
   obtain ⟨A1,c1,rfl⟩:=ownsRow_form ho
   rw[List.take_length]at HM
   cases done
   ·have hl3:=hl2 rfl
    have HM1:=Hd (HM.out.1 rfl)
    clear HM hl2 hA
    go_wp2_with (at_builtin;go_must (refine wpList_append_lies _ rfl (.tmp 45) (.tmp 47) 33 rfl w.heap.size 9 i0 _ 1 16 Tryz.underlying33 hi0 hz0 hz1 hz2 rfl (by omega) (.slice A1 acc.length c1) acc.length (svals acc) rfl (ownsRow_below ho bnew) ⟨wr.heap.size,0,none⟩ 1 1 [.string s] rfl rfl (news_at rfl) (by simp[Value.oneCell']) (by omega) (by simp only[maxLen];omega) (by omega) (by simp;omega) _ rfl ?_);intro g cap w2 hown2 hg2 hat hlt2)
    go_ret
    have hB2:=(hb.trans (((Below.refl wr.heap.size wr).alloc (Nat.le_refl _) (.cells #[.string s] 9)).mono (show w.heap.size≤wr.heap.size by omega))).grown hg2 (by simp;omega) (fun j hj=>(ho.lt j hj).1)
    obtain ⟨A2,c2,he,hW⟩:=words_own (l:=acc++[s]) (by simpa [svals] using hown2)
    rw[List.length_append,List.length_singleton]at he
    injection he with e1 e2 e3
    subst e1
    subst e3
    refine ⟨_,_,acc++[s],by rw[List.length_append];rfl,hW.more (fun b h=>.inr h),Hd (fun t=>by simp[HM1.out t];grind),by simp;omega,hB2⟩
   ·have HM1:=Hd (HM.out.2 rfl)
    obtain ⟨A2,c2,he,hW⟩:=words_own ho
    injection he with e1 e2 e3
    subst e1
    subst e3
    clear HM hl2 hA
    go_wp2
    go_ret
    exact ⟨_,_,acc,rfl,hW.more (fun b h=>.inr h),HM1,hl1,hb⟩
theorem ta_yes_fault (w:World) (x:Value):(Instr.typeAssert (.iface 97 x) 20 97 true).run Tryz.prog w=.ok (.tuple #[x,.bool true]) w:=run_ta_yes w Tryz.underlying97 (fun _ h=>by cases h)
theorem catch_idle (p0 p1 p2:Addr) (w:World) :
  CallsD Tryz.prog 43 #[.pointer (some p0),.pointer (some p1),.pointer (some p2)] .returning w fun e u' w'=>e=.returned (.tuple #[])∧u'=.returning∧w'=w:=by
 refine callsD_of_wpS Tryz.func43 rfl fun c₀ cs hu=>?_
 apply wpS_seq
 apply wpS_region
 simp[wpOpsS,go_sem,recoverD,hu,Tryz.ntmps43,Exit.thenS]
 refine wpS_of_wp ?_
 go_wp2
 cases c₀
 simp_all [bodyPostS,results,Tryz.results43]
theorem catch_fault (b:Nat) (a:Int) (why:Nat) (w:World) (u0 u1 u2:Value) (hb:b+2<w.heap.size) (h0:w.cell? ⟨b,0,none⟩=some u0) (f0:w.frozen? ⟨b,0,none⟩=false) (h1:w.cell? ⟨b+1,0,none⟩=some u1) (f1:w.frozen? ⟨b+1,0,none⟩=false) (h2:w.cell? ⟨b+2,0,none⟩=some u2) (f2:w.frozen? ⟨b+2,0,none⟩=false) :
  CallsD Tryz.prog 43 #[.pointer (some ⟨b,0,none⟩),.pointer (some ⟨b+1,0,none⟩),.pointer (some ⟨b+2,0,none⟩)] (.panicking [{ v:=faultV a why,recovered:=false }]) w fun e u' w' =>
   e=.returned (.tuple #[])∧u'=.panicking [{ v:=faultV a why,recovered:=true }]∧w'.cell? ⟨b,0,none⟩=some .nilIface∧w'.cell? ⟨b+1,0,none⟩=some (.int .i64 a)∧w'.cell? ⟨b+2,0,none⟩=some (.int .i64 why)∧Below b w w':=by
 unfold faultV
 refine callsD_of_wpS Tryz.func43 rfl fun c₀ cs hu=>?_
 apply wpS_seq
 apply wpS_region
 simp[wpOpsS,go_sem,recoverD,hu,Tryz.ntmps43,Exit.thenS]
 refine wpS_of_wp ?_
 have k0:=fun (W:World) (x:Value)=>ta_yes_fault W x
 have hb0:b<w.heap.size:=by omega
 have hb1:b+1<w.heap.size:=by omega
 change Code.wp _ _ _ { tmps:=#[.pointer (some ⟨b,0,none⟩),.pointer (some ⟨b+1,0,none⟩),.pointer (some ⟨b+2,0,none⟩),undef,undef,undef,.iface 97 (.agg #[.int .i64 a,.int .i64 why]),undef,undef,undef,undef,undef,undef,undef,undef,undef],defers:=[] } _
 go_wp2
 go_region
 simp only[Exit.inBlock]
 have e0:((w.setCell ⟨b,0,none⟩ .nilIface).setCell ⟨b+1,0,none⟩ (.int .i64 a)).setCell ⟨b+2,0,none⟩ (.int .i64 why)=((w.setCell ⟨b,0,none⟩ .nilIface).setCell ⟨b+1,0,none⟩ (.int .i64 a)).setCell ⟨b+2,0,none⟩ (.int .i64 why):=rfl
 have c0:(((w.setCell ⟨b,0,none⟩ .nilIface).setCell ⟨b+1,0,none⟩ (.int .i64 a)).setCell ⟨b+2,0,none⟩ (.int .i64 why)).cell? ⟨b,0,none⟩=some .nilIface:=by
  rw[World.cell?_setCell_other _ _ _ _ (by intro h;injection h with h;omega),World.cell?_setCell_other _ _ _ _ (by intro h;injection h with h;omega)]
  exact World.cell?_setCell_same _ _ _ h0
 have c1:(((w.setCell ⟨b,0,none⟩ .nilIface).setCell ⟨b+1,0,none⟩ (.int .i64 a)).setCell ⟨b+2,0,none⟩ (.int .i64 why)).cell? ⟨b+1,0,none⟩=some (.int .i64 a):=by
  rw[World.cell?_setCell_other _ _ _ _ (by intro h;injection h with h;omega)]
  exact World.cell?_setCell_same _ _ _ ((World.cell?_setCell_other _ _ _ _ (by intro h;injection h with h;omega)).trans h1)
 have c2:(((w.setCell ⟨b,0,none⟩ .nilIface).setCell ⟨b+1,0,none⟩ (.int .i64 a)).setCell ⟨b+2,0,none⟩ (.int .i64 why)).cell? ⟨b+2,0,none⟩=some (.int .i64 why):=
  World.cell?_setCell_same _ _ _ ((World.cell?_setCell_other _ _ _ _ (by intro h;injection h with h;omega)).trans ((World.cell?_setCell_other _ _ _ _ (by intro h;injection h with h;omega)).trans h2))
 have hB:Below b w (((w.setCell ⟨b,0,none⟩ .nilIface).setCell ⟨b+1,0,none⟩ (.int .i64 a)).setCell ⟨b+2,0,none⟩ (.int .i64 why)):=
  (((Below.refl b w).setCell (p:=⟨b,0,none⟩) (Nat.le_refl _) _).setCell (p:=⟨b+1,0,none⟩) (Nat.le_succ _) _).setCell (p:=⟨b+2,0,none⟩) (by show b≤b+2;omega) _
 have hs:(((w.setCell ⟨b,0,none⟩ .nilIface).setCell ⟨b+1,0,none⟩ (.int .i64 a)).setCell ⟨b+2,0,none⟩ (.int .i64 why)).heap.size=w.heap.size:=by simp
 generalize ((w.setCell ⟨b,0,none⟩ .nilIface).setCell ⟨b+1,0,none⟩ (.int .i64 a)).setCell ⟨b+2,0,none⟩ (.int .i64 why)=W at *
 have hb3:Below W.heap.size W (W.alloc (.cells #[.int .i64 a,.int .i64 why] 97)).drew:=bnew.drew
 exact ⟨rfl,_,rfl,.tuple #[],by simp[results,Tryz.results43],rfl,rfl,(hb3.cell (p:=⟨b,0,none⟩) (by rw[hs];exact hb0)).trans c0,(hb3.cell (p:=⟨b+1,0,none⟩) (by rw[hs];exact hb1)).trans c1,(hb3.cell (p:=⟨b+2,0,none⟩) (by rw[hs];exact hb)).trans c2,hB.trans (hb3.mono (by rw[hs];omega))⟩
attribute [local go_sem] ta_no_bool ta_yes_bool ta_nil_bool ta_no_int64 ta_yes_int64 ta_nil_int64 ta_no_flt ta_yes_flt ta_nil_flt ta_no_str ta_yes_str ta_nil_str ta_no_byt ta_yes_byt ta_nil_byt ta_no_ref ta_yes_ref ta_nil_ref ta_no_lst ta_yes_lst ta_nil_lst ta_no_dct ta_yes_dct ta_nil_dct ta_no_rec ta_yes_rec ta_nil_rec
theorem canAll_mono {l:List (Int→Bool×Int)} (h:∀f∈l,∀k,0≤k→(f k).1=true→0≤(f k).2∧(f k).2≤k):∀k,0≤k→(canAll l k).1=true→0≤(canAll l k).2∧(canAll l k).2≤k:=by
 induction l with
 | nil=>intro k hk _;exact ⟨hk,Int.le_refl _⟩
 | cons f r ih =>
  intro k hk ht
  rw[canAll]at ht ⊢
  by_cases hf:(f k).1=true
  ·rw[if_pos hf]at ht ⊢
   have h1:=h f (by simp) k hk hf
   have h2:=ih (fun g hg=>h g (by simp[hg])) _ h1.1 ht
   exact ⟨h2.1,Int.le_trans h2.2 h1.2⟩
  ·rw[if_neg hf]at ht;cases ht
theorem canV_mono (e:Ex):∀k,0≤k→(canV e k).1=true→0≤(canV e k).2∧(canV e k).2≤k:=by
 induction e using Ex.ind with
 | h op a l nm t ih =>
  intro k hk h
  rw[canV]at h ⊢
  unfold canS at h ⊢
  split at h
  ·cases h
  ·rename_i hc
   split at h
   ·rename_i hp
    rw[if_neg hc,if_pos hp]
    have:=canAll_mono (l:=canVL l) (fun f hf=>by
     rw[canVL_eq]at hf
     obtain ⟨x,hx,rfl⟩:=List.mem_map.1 hf
     exact ih x hx) (k-1) (by omega) h
    exact ⟨this.1,by omega⟩
   ·cases h
def CanPost (bl:Nat) (r:Bool×Int) (w:World) (e:Ending) (w':World):Prop:=e=.returned (.bool r.1)∧Aside bl w w'∧Hold w' bl 0 (.int .i64 r.2)
def CanC (e:Ex):Prop:=∀(x:List Value) (k:Int) (S:Nat→Prop) (w:World) (bl:Nat),Seen S w bl→bl<w.heap.size→0≤k→k≤16384→RdES w S e x→Words w S 1 kindWords→Words w S 2 wordList→Hold w bl 0 (.int .i64 k) →
 Calls Tryz.prog 57 #[termOf x,.pointer (some ⟨bl,0,none⟩)] w (CanPost bl (canV e k) w)
theorem can1_any (e:Ex) (ih:CanC e) (x:List Value) (k:Int) (S:Nat→Prop) (w:World) (bl bp:Nat) (hS:Seen S w bl) (hbl:bl<w.heap.size) (hk:0≤k) (hk2:k≤16384) (hx:RdES w S e x) (hw:Words w S 1 kindWords) (hw2:Words w S 2 wordList) (hh:Hold w bl 0 (.int .i64 k)) (hbp:bp<w.heap.size) (q:w.cell? ⟨bp,0,none⟩=some (.pointer (some ⟨bl,0,none⟩))) :
  Calls Tryz.prog 88 #[termOf x,.pointer (some ⟨bp,0,none⟩)] w (CanPost bl (!(canV e k).1,(canV e k).2) w):=by
 have HC:=Hd (fun (W:World) (hW:Below w.heap.size w W)=>ih x k S W bl (hS.to hW.size) (Nat.lt_of_lt_of_le hbl hW.size) hk hk2 (hx.aside hS (Aside.of_below hW)) (hw.aside hS (Aside.of_below hW)) (hw2.aside hS (Aside.of_below hW)) (hh.below hW hbl))
 unfold CanPost at *
 clear ih hw hw2 hh
 generalize canV e k=r at *
 obtain ⟨op',a',l',nm',t'⟩:=e
 obtain ⟨A',c',y',rfl,-,-,-,hty,-⟩:=hx
 obtain ⟨m0,m1,m2,m3,m4,m5,m6,m7,m8,m9,m10,rfl,h1c⟩:=hty.elevenS
 have hB:Below w.heap.size w (w.alloc (.cells #[.string op',.int .i64 a',.slice A' l'.length c',.string nm',m0,m1,m2,m3,m4,m5,m6,m7,m8,m9,m10] 32)):=bnew
 have HB:=Hd hB
 have q':=(hB.cell (p:=⟨bp,0,none⟩) hbp).trans q
 clear hty h1c hS hB
 unfold termOf at *
 go_enter Tryz.func88,Tryz.ntmps88
 go_wp2_with fail
 refine (HC.out _ HB.out).mono ?_
 rintro e w1 ⟨rfl,hA,hH⟩
 go_wp2
 go_ret
 exact ⟨rfl,(Aside.of_below HB.out).trans hA,hH⟩
theorem canVL_drop {l:List Ex} {k:Nat} {x:Ex} (hx:l[k]?=some x):(canVL l).drop k=canV x :: (canVL l).drop (k+1):=by
 rw[canVL_eq]
 obtain ⟨hk,e⟩:=List.getElem?_eq_some_iff.1 hx
 rw[List.drop_eq_getElem_cons (by simpa using hk)]
 simp[e]
theorem canVL_end {l:List Ex}:(canVL l).drop l.length=[]:=by rw[canVL_eq];simp
def IndexEPost (bl:Nat) (r:Bool×Int) (w:World) (e:Ending) (w':World):Prop:=∃j:Int,e=.returned (.int .i64 j)∧(!decide (0≤j))=r.1∧Aside bl w w'∧Hold w' bl 0 (.int .i64 r.2)
theorem indexE_any (l:List Ex) (ih:∀x∈l,CanC x) (A:Option Addr) (c:Nat) (k0:Int) (S:Nat→Prop) (w:World) (bl bp:Nat) (hS:Seen S w bl) (hbl:bl<w.heap.size) (hk:0≤k0) (hk2:k0≤16384) (hll:l.length*216≤140737488351232) (hp:PartsS w S A l) (hw:Words w S 1 kindWords) (hw2:Words w S 2 wordList) (hh:Hold w bl 0 (.int .i64 k0)) (hbp:bp<w.heap.size) (hne:bp≠bl) (q:w.cell? ⟨bp,0,none⟩=some (.pointer (some ⟨bl,0,none⟩))) :
  Calls Tryz.prog 130 #[.slice A l.length c,.func (.func 88) #[] #[.pointer (some ⟨bp,0,none⟩)]] w (IndexEPost bl (canAll (canVL l) k0) w):=by
 have HCl:=Hd (fun (x:Ex) (hx:x∈l) (xs:List Value) (k:Int) (W:World) (hW:Aside bl w W) (hk:0≤k) (hk2:k≤16384) (hxs:RdES w S x xs) (hH:Hold W bl 0 (.int .i64 k))=>can1_any x (ih x hx) xs k S W bl bp (hS.to hW.size) (Nat.lt_of_lt_of_le hbl hW.size) hk hk2 (hxs.aside hS hW) (hw.aside hS hW) (hw2.aside hS hW) hH (Nat.lt_of_lt_of_le hbp hW.size) ((hW.cell (p:=⟨bp,0,none⟩) hbp hne).trans q))
 clear ih hw hw2
 go_enter Tryz.func130,Tryz.ntmps130
 go_wp2
 go_loopw [8] (fun i wr=>∃(j:Nat) (k:Int),i=.int .i64 j∧j≤l.length∧0≤k∧k≤16384∧Hid (canAll (canVL l) k0=canAll ((canVL l).drop j) k)∧Aside bl w wr∧Hold wr bl 0 (.int .i64 k)) (fun i _=>l.length-(intOf i).toNat)
 case atStart=>exact ⟨0,k0,rfl,by omega,hk,hk2,Hd rfl,Aside.refl _ _,hh⟩
 case round =>
  obtain ⟨j,k,rfl,hj,hkk,hkk2,HT,hA,hH⟩:=hrel
  by_cases hlt:j<l.length
  ·obtain ⟨x,hx⟩:∃x,l[j]?=some x:=⟨_,List.getElem?_eq_getElem hlt⟩
   obtain ⟨b,off,xs,rfl,hSb,c0,hxs⟩:=hp.get hx
   have c1:=c0.keep (fun p hp=>hA.cell (by rw[hp];exact (hS b hSb).1) (by rw[hp];exact (hS b hSb).2))
   have HC:=Hd (HCl.out x (List.mem_of_getElem? hx) xs k wr hA hkk hkk2 hxs hH)
   have HU:Hid (canAll (canVL l) k0=if (canV x k).1=true then canAll ((canVL l).drop (j+1)) (canV x k).2 else (false,(canV x k).2)):=Hd (by rw[HT.out,canVL_drop hx,canAll])
   have HM:=Hd (canV_mono x k hkk)
   unfold CanPost at HC
   generalize canV x k=r at *
   obtain ⟨op',a',l',nm',t'⟩:=x
   obtain ⟨A',c',y',rfl,-,-,-,hty,-⟩:=hxs
   obtain ⟨m0,m1,m2,m3,m4,m5,m6,m7,m8,m9,m10,rfl,h1c⟩:=hty.elevenS
   obtain ⟨q0,q1,q2,q3,q4,q5,q6,q7,q8,q9,q10,q11,q12,q13,q14⟩:=lie15 c1
   unfold termOf at HC
   clear hp hx c0 c1 hty h1c HCl HT hH
   obtain ⟨rb,rk⟩:=r
   cases rb with
   | true =>
    have HU2:Hid (canAll (canVL l) k0=canAll ((canVL l).drop (j+1)) rk):=Hd (by rw[HU.out];rfl)
    have hm:=HM.out rfl
    go_wp2_with fail
    refine HC.out.mono ?_
    rintro e w1 ⟨rfl,hA2,hH2⟩
    go_wp2
    refine ⟨⟨j+1,rk,rfl,hlt,hm.1,Int.le_trans hm.2 hkk2,HU2,hA.trans hA2,hH2⟩,?_⟩
    simp[intOf];omega
   | false =>
    have HU2:Hid (canAll (canVL l) k0=(false,rk)):=Hd (by rw[HU.out];rfl)
    go_wp2_with fail
    refine HC.out.mono ?_
    rintro e w1 ⟨rfl,hA2,hH2⟩
    go_wp2
    go_ret
    exact ⟨j,rfl,by rw[HU2.out];simp,hA.trans hA2,by rw[HU2.out];exact hH2⟩
  ·obtain rfl:j=l.length:=by omega
   have HU2:Hid (canAll (canVL l) k0=(true,k)):=Hd (by rw[HT.out,canVL_end];rfl)
   clear hp HCl HT
   go_wp2
   go_ret
   exact ⟨-1,rfl,by rw[HU2.out];rfl,hA,by rw[HU2.out];exact hH⟩
theorem containsE_any (l:List Ex) (ih:∀x∈l,CanC x) (A:Option Addr) (c:Nat) (k0:Int) (S:Nat→Prop) (w:World) (bl bp:Nat) (hS:Seen S w bl) (hbl:bl<w.heap.size) (hk:0≤k0) (hk2:k0≤16384) (hll:l.length*216≤140737488351232) (hp:PartsS w S A l) (hw:Words w S 1 kindWords) (hw2:Words w S 2 wordList) (hh:Hold w bl 0 (.int .i64 k0)) (hbp:bp<w.heap.size) (hne:bp≠bl) (q:w.cell? ⟨bp,0,none⟩=some (.pointer (some ⟨bl,0,none⟩))) :
  Calls Tryz.prog 87 #[.slice A l.length c,.func (.func 88) #[] #[.pointer (some ⟨bp,0,none⟩)]] w (CanPost bl (!(canAll (canVL l) k0).1,(canAll (canVL l) k0).2) w):=by
 have HI:=Hd (indexE_any l ih A c k0 S w bl bp hS hbl hk hk2 hll hp hw hw2 hh hbp hne q)
 unfold IndexEPost CanPost at *
 clear ih hp hw hw2 hh
 go_enter Tryz.func87,Tryz.ntmps87
 go_wp2_with fail
 refine HI.out.mono ?_
 rintro e w1 ⟨j,rfl,hj,hA,hH⟩
 have HJ:=Hd hj
 clear hj
 go_wp2
 go_ret
 exact ⟨ret_bool (by rw[←HJ.out];simp),hA,hH⟩
end Go.Proofs.YtbemeapjeipjlaaGreatDoor
