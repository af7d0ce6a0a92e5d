/- Only what it names: the walk of the law, the merge. -/
import Derived.Test.YtbemeapjeipjlaaGreatDoorQN38
import Derived.Test.YtbemeapjeipjlaaGreatDoorQN28
import Derived.Test.YtbemeapjeipjlaaGreatDoorQN41
import Derived.Test.YtbemeapjeipjlaaGreatDoorQN32
import Derived.Test.YtbemeapjeipjlaaGreatDoorQN43
import Derived.Test.YtbemeapjeipjlaaGreatDoorQN11
import Derived.Deep.CutRange
set_option linter.unusedVariables false
set_option linter.unusedSimpArgs false
namespace Go.Proofs.YtbemeapjeipjlaaGreatDoor
open Go Go.RowKit
set_option maxRecDepth 100000
set_option maxHeartbeats 8000000
theorem namedIn_snoc (L:List ByteArray) (x n:ByteArray) (j:Nat) (h:L[j]?=some x):namedIn (L.take (j+1)) n=(namedIn (L.take j) n || (x.toList==n.toList)):=by
 unfold namedIn
 rw[List.take_add_one,h]
 simp
theorem take_filter {α:Type} (f:α→Bool) (l:List α) (i:Nat) (x:α) (h:l[i]?=some x):(l.take (i+1)).filter f=(l.take i).filter f++(if f x=true then [x] else []):=by
 rw[List.take_add_one,h,List.filter_append]
 by_cases hf:f x=true <;> simp[hf]
theorem names_law (e:Ex) (a b:List (ByteArray×Tm)) (Aa Ab:Option Addr) (ca cb:Nat) (xe:List Value) (w:World) (he:RdE w w.heap.size e xe) (ha:EntsAt w w.heap.size Aa a) (hb:EntsAt w w.heap.size Ab b) (hla:a.length≤1048576) (hlb:b.length≤1048576)
  (hw:Words w (fun b=>b<w.heap.size) 1 kindWords) (hw2:Words w (fun b=>b<w.heap.size) 2 wordList)
  (HN:Hid (∀(x:List Value) (w:World),RdE w w.heap.size e x→Calls Tryz.prog 6 #[termOf x] w (NamedPost e w))) :
  Calls Tryz.prog 3 #[termOf xe,.slice Aa a.length ca,.slice Ab b.length cb] w (BoolPost true w):=by
 obtain ⟨x0,x1,x2,x3,x4,x5,x6,x7,x8,x9,x10,x11,x12,x13,x14,rfl,-⟩:=Ex.cells15 he
 obtain ⟨i0,hi0,hz0,hz1,hz2⟩:=info_parts Tryz.infoEntry2
 have HB0:Hid (Below w.heap.size w (w.alloc (.cells #[x0,x1,x2,x3,x4,x5,x6,x7,x8,x9,x10,x11,x12,x13,x14] 32))):=Hd bnew
 have hsz0:(w.alloc (.cells #[x0,x1,x2,x3,x4,x5,x6,x7,x8,x9,x10,x11,x12,x13,x14] 32)).heap.size=w.heap.size+1:=by simp
 have HN1:=Hd (HN.out _ _ (RdE.more HB0.out.size _ _ (RdE.below he HB0.out)))
 have HE:=Hd he
 clear he HN
 unfold termOf at *
 go_enter Tryz.func3,Tryz.ntmps3
 go_wp2_with fail
 refine HN1.out.mono ?_
 rintro y w1 ⟨AL,cL,L,only,rfl,hWL,HAS,hLn,hb1⟩
 have hs1:w.heap.size+1≤w1.heap.size:=by have:=hb1.size;rw[hsz0]at this;exact this
 have hb01:Below w.heap.size w w1:=HB0.out.trans (hb1.mono (by rw[hsz0];omega))
 have o0:=fun (W:World) (a:Addr) (m:Mode) (x:Nat)=>run_store Tryz.prog W a (.float .f64 x) m rfl
 have HLE:Hid (Lie w1 w.heap.size 0 [x0,x1,x2,x3,x4,x5,x6,x7,x8,x9,x10,x11,x12,x13,x14]):=Hd (by
  have h0:Lie (w.alloc (.cells #[x0,x1,x2,x3,x4,x5,x6,x7,x8,x9,x10,x11,x12,x13,x14] 32)) w.heap.size 0 [x0,x1,x2,x3,x4,x5,x6,x7,x8,x9,x10,x11,x12,x13,x14]:=by
   intro j u hj
   rw[show (w.alloc (.cells #[x0,x1,x2,x3,x4,x5,x6,x7,x8,x9,x10,x11,x12,x13,x14] 32)).cell? ⟨w.heap.size,0+j,none⟩=([x0,x1,x2,x3,x4,x5,x6,x7,x8,x9,x10,x11,x12,x13,x14]:List Value)[j]? by simp[go_sem]]
   exact hj
  exact h0.keep (fun p hp=>hb1.cell (show p.block<_ by rw[hp,hsz0];omega)))
 have HX0:Hid (Below w1.heap.size w1 ((w1.alloc (.cells #[.int .i64 9,.bool false,.int .i64 0,.float .f64 0,.string ⟨#[]⟩,.slice none 0 0,.int .u64 0,.slice none 0 0,.slice Aa a.length ca,.string ⟨#[]⟩,.int .i64 0] 30)).alloc (.cells #[.int .i64 9,.bool false,.int .i64 0,.float .f64 0,.string ⟨#[]⟩,.slice none 0 0,.int .u64 0,.slice none 0 0,.slice none 0 0,.string ⟨#[]⟩,.int .i64 0] 30))):=Hd (bnew.alloc (by simp) _)
 have HX1:Hid (Lie ((w1.alloc (.cells #[.int .i64 9,.bool false,.int .i64 0,.float .f64 0,.string ⟨#[]⟩,.slice none 0 0,.int .u64 0,.slice none 0 0,.slice Aa a.length ca,.string ⟨#[]⟩,.int .i64 0] 30)).alloc (.cells #[.int .i64 9,.bool false,.int .i64 0,.float .f64 0,.string ⟨#[]⟩,.slice none 0 0,.int .u64 0,.slice none 0 0,.slice none 0 0,.string ⟨#[]⟩,.int .i64 0] 30)) w1.heap.size 0 [.int .i64 9,.bool false,.int .i64 0,.float .f64 0,.string ⟨#[]⟩,.slice none 0 0,.int .u64 0,.slice none 0 0,.slice Aa a.length ca,.string ⟨#[]⟩,.int .i64 0]):=Hd (by
  intro j u hj
  rw[show ((w1.alloc (.cells #[.int .i64 9,.bool false,.int .i64 0,.float .f64 0,.string ⟨#[]⟩,.slice none 0 0,.int .u64 0,.slice none 0 0,.slice Aa a.length ca,.string ⟨#[]⟩,.int .i64 0] 30)).alloc (.cells #[.int .i64 9,.bool false,.int .i64 0,.float .f64 0,.string ⟨#[]⟩,.slice none 0 0,.int .u64 0,.slice none 0 0,.slice none 0 0,.string ⟨#[]⟩,.int .i64 0] 30)).cell? ⟨w1.heap.size,0+j,none⟩=([.int .i64 9,.bool false,.int .i64 0,.float .f64 0,.string ⟨#[]⟩,.slice none 0 0,.int .u64 0,.slice none 0 0,.slice Aa a.length ca,.string ⟨#[]⟩,.int .i64 0]:List Value)[j]? by simp[go_sem]]
  exact hj)
 have HX2:Hid (Lie ((w1.alloc (.cells #[.int .i64 9,.bool false,.int .i64 0,.float .f64 0,.string ⟨#[]⟩,.slice none 0 0,.int .u64 0,.slice none 0 0,.slice Aa a.length ca,.string ⟨#[]⟩,.int .i64 0] 30)).alloc (.cells #[.int .i64 9,.bool false,.int .i64 0,.float .f64 0,.string ⟨#[]⟩,.slice none 0 0,.int .u64 0,.slice none 0 0,.slice none 0 0,.string ⟨#[]⟩,.int .i64 0] 30)) (w1.heap.size+1) 0 [.int .i64 9,.bool false,.int .i64 0,.float .f64 0,.string ⟨#[]⟩,.slice none 0 0,.int .u64 0,.slice none 0 0,.slice none 0 0,.string ⟨#[]⟩,.int .i64 0]):=Hd (by
  intro j u hj
  rw[show ((w1.alloc (.cells #[.int .i64 9,.bool false,.int .i64 0,.float .f64 0,.string ⟨#[]⟩,.slice none 0 0,.int .u64 0,.slice none 0 0,.slice Aa a.length ca,.string ⟨#[]⟩,.int .i64 0] 30)).alloc (.cells #[.int .i64 9,.bool false,.int .i64 0,.float .f64 0,.string ⟨#[]⟩,.slice none 0 0,.int .u64 0,.slice none 0 0,.slice none 0 0,.string ⟨#[]⟩,.int .i64 0] 30)).cell? ⟨w1.heap.size+1,0+j,none⟩=([.int .i64 9,.bool false,.int .i64 0,.float .f64 0,.string ⟨#[]⟩,.slice none 0 0,.int .u64 0,.slice none 0 0,.slice none 0 0,.string ⟨#[]⟩,.int .i64 0]:List Value)[j]? by simp[go_sem]]
  exact hj)
 have HX3:Hid (((w1.alloc (.cells #[.int .i64 9,.bool false,.int .i64 0,.float .f64 0,.string ⟨#[]⟩,.slice none 0 0,.int .u64 0,.slice none 0 0,.slice Aa a.length ca,.string ⟨#[]⟩,.int .i64 0] 30)).alloc (.cells #[.int .i64 9,.bool false,.int .i64 0,.float .f64 0,.string ⟨#[]⟩,.slice none 0 0,.int .u64 0,.slice none 0 0,.slice none 0 0,.string ⟨#[]⟩,.int .i64 0] 30)).frozen? ⟨w1.heap.size+1,8,none⟩=false):=Hd (by simp[go_sem])
 go_wp2_with fail
 clear o0
 go_loopw [11,12] (fun iv kv wr=>∃(i k:Nat) (F:List (ByteArray×Tm)) (Av:Option Addr) (cv:Nat),iv=.int .i64 i∧kv=.int .i64 k∧i≤a.length∧k≤b.length∧Below w1.heap.size w1 wr∧w1.heap.size+2≤wr.heap.size∧Lie wr w1.heap.size 0 [.int .i64 9,.bool false,.int .i64 0,.float .f64 0,.string ⟨#[]⟩,.slice none 0 0,.int .u64 0,.slice none 0 0,.slice Aa a.length ca,.string ⟨#[]⟩,.int .i64 0]∧Lie wr (w1.heap.size+1) 0 [.int .i64 9,.bool false,.int .i64 0,.float .f64 0,.string ⟨#[]⟩,.slice none 0 0,.int .u64 0,.slice none 0 0,.slice Av F.length cv,.string ⟨#[]⟩,.int .i64 0]∧wr.frozen? ⟨w1.heap.size+1,8,none⟩=false∧OwnR bearsE 37 (fun b=>b<w.heap.size) wr (w1.heap.size+2) (.slice Av F.length cv) F∧F.length≤i+k∧Hid ((F.filter fun p=>namedIn L p.1)=(a.take i).filter fun p=>namedIn L p.1)) (fun iv kv _=>a.length+b.length-(intOf iv).toNat-(intOf kv).toNat)
 case atStart=>exact ⟨0,0,[],none,0,rfl,rfl,Nat.zero_le _,Nat.zero_le _,HX0.out,by simp,HX1.out,HX2.out,HX3.out,OwnR.nil _ _ _,Nat.zero_le _,Hd rfl⟩
 case round =>
  obtain ⟨i,k,F,Av,cv,rfl,rfl,hi,hk,hbr,hzr,hX,hY,hYf,hO,hFl,HF⟩:=hrel
  have hzz:w1.heap.size≤wr.heap.size:=hbr.size
  have hbw:Below w.heap.size w wr:=hb01.trans (hbr.mono (by omega))
  have hwwr:w.heap.size≤wr.heap.size:=by omega
  clear HX0 HX1 HX2 HX3
  go_upto_region 5 with (fail)
  go_cut [47] from 38 to 48 (fun v47 wx=>v47=.bool (decide (i<a.length∨k<b.length))∧wr=wx)
  case first =>
   clear hX hY hYf hO HF hFl
   by_cases h1:i<a.length
   ·go_wp2_with fail
    go_meet
    exact ⟨by simp[h1],rfl⟩
   ·by_cases h2:k<b.length
    ·go_wp2_with fail
     go_meet
     exact ⟨by simp[h2],rfl⟩
    ·go_wp2_with fail
     go_meet
     exact ⟨by simp[h1,h2],rfl⟩
  obtain ⟨rfl,rfl⟩:=hcut
  by_cases hik:i<a.length∨k<b.length
  ·go_upto_region 6 with (fail)
   go_cut [13] from 38 to 71 (fun v13 wx=>∃f:Bool,v13=.bool f∧(f=true→i<a.length)∧(f=false→k<b.length)∧Below wr.heap.size wr wx)
   case first =>
    clear hX hY hYf hO HF hFl
    by_cases hkb:k=b.length
    ·obtain rfl:=hkb
     have hlt:i<a.length:=by omega
     go_wp2_with fail
     refine wp_region_below_lit (by kernel_rfl) (by kernel_rfl) ?_
     repeat (refine WpC.step (fun K hK=>?_);go_simp;first|(refine hK _ ?_;clear hK K)|(apply Exists.intro;refine ⟨fun W hW=>?_,hK _ ?_⟩;(first|(intros;rfl)|(refine ⟨rfl,?_⟩;rfl)|((fail))|((fail)));clear hK K))
     refine WpC.nil ?_
     intro wq hwq
     go_wp2_with fail
     go_meet
     exact ⟨true,rfl,fun _=>hlt,fun h=>absurd h (by decide),hwq⟩
    ·have hkn:((k:Int)==(b.length:Int))=false:=by rw[beq_eq_false_iff_ne];omega
     have hkl:k<b.length:=by omega
     by_cases hia:i=a.length
     ·obtain rfl:=hia
      go_wp2_with fail
      refine wp_region_below_lit (by kernel_rfl) (by kernel_rfl) ?_
      repeat (refine WpC.step (fun K hK=>?_);go_simp;first|(refine hK _ ?_;clear hK K)|(apply Exists.intro;refine ⟨fun W hW=>?_,hK _ ?_⟩;(first|(intros;rfl)|(refine ⟨rfl,?_⟩;rfl)|((fail))|((fail)));clear hK K))
      refine WpC.nil ?_
      intro wq hwq
      go_wp2_with fail
      go_meet
      exact ⟨false,rfl,fun h=>absurd h (by decide),fun _=>hkl,hwq⟩
     ·have hlt:i<a.length:=by omega
      obtain ⟨pa,hpa⟩:∃p,a[i]?=some p:=⟨_,List.getElem?_eq_getElem (by omega)⟩
      obtain ⟨bA,oA,rfl,hbA,hrA⟩:=EntsAt.at_ (EntsAt.below ha hbw) (k:=i) (by omega)
      obtain ⟨ea,hnsa,ya,hya,hTa⟩:=RdTD.iff.1 hrA i _ hpa
      have hbA1:bA<wr.heap.size:=by omega
      obtain ⟨pb,hpb⟩:∃p,b[k]?=some p:=⟨_,List.getElem?_eq_getElem (by omega)⟩
      obtain ⟨bB,oB,rfl,hbB,hrB⟩:=EntsAt.at_ (EntsAt.below hb hbw) (k:=k) (by omega)
      obtain ⟨eb,hnsb,yb,hyb,hTb⟩:=RdTD.iff.1 hrB k _ hpb
      have hbB1:bB<wr.heap.size:=by omega
      have hle0:(Op.bytesLess pa.1.toList pb.1.toList || pa.1.toList==pb.1.toList)=leS pa.1 pb.1:=rfl
      clear hya hTa hyb hTb hrA hrB hpa hpb
      cases hle:leS pa.1 pb.1 <;> rw[hle]at hle0
      ·clear hle
       go_wp2_with fail
       refine wp_region_below_lit (by kernel_rfl) (by kernel_rfl) ?_
       repeat (refine WpC.step (fun K hK=>?_);go_simp;first|(refine hK _ ?_;clear hK K)|(apply Exists.intro;refine ⟨fun W hW=>?_,hK _ ?_⟩;(first|(intros;rfl)|(refine ⟨rfl,?_⟩;rfl)|((have ea2:=(hW.cell (p:=⟨bA,oA+i*12,none⟩) hbA1).trans ea;have eb2:=(hW.cell (p:=⟨bB,oB+k*12,none⟩) hbB1).trans eb;go_simp;rfl))|((fail)));clear hK K))
       refine WpC.nil ?_
       intro wq hwq
       go_wp2_with fail
       go_meet
       exact ⟨false,rfl,fun h=>absurd h (by decide),fun _=>hkl,hwq⟩
      ·clear hle
       go_wp2_with fail
       refine wp_region_below_lit (by kernel_rfl) (by kernel_rfl) ?_
       repeat (refine WpC.step (fun K hK=>?_);go_simp;first|(refine hK _ ?_;clear hK K)|(apply Exists.intro;refine ⟨fun W hW=>?_,hK _ ?_⟩;(first|(intros;rfl)|(refine ⟨rfl,?_⟩;rfl)|((have ea2:=(hW.cell (p:=⟨bA,oA+i*12,none⟩) hbA1).trans ea;have eb2:=(hW.cell (p:=⟨bB,oB+k*12,none⟩) hbB1).trans eb;go_simp;rfl))|((fail)));clear hK K))
       refine WpC.nil ?_
       intro wq hwq
       go_wp2_with fail
       go_meet
       exact ⟨true,rfl,fun _=>hlt,fun h=>absurd h (by decide),hwq⟩
   case rest =>
    obtain ⟨f,rfl,hf1,hf2,hwq⟩:=hcut
    cases f
    ·have hkl:k<b.length:=hf2 rfl
     clear hf1 hf2
     obtain ⟨pb,hpb⟩:∃p,b[k]?=some p:=⟨_,List.getElem?_eq_getElem (by omega)⟩
     obtain ⟨bB,oB,rfl,hbB,hrB⟩:=EntsAt.at_ (EntsAt.below hb hbw) (k:=k) (by omega)
     obtain ⟨eb,hnsb,yb,hyb,hTb⟩:=RdTD.iff.1 hrB k _ hpb
     have hbB1:bB<wr.heap.size:=by omega
     have hzq:wr.heap.size≤wc.heap.size:=hwq.size
     have hXq:=hX.keep (fun p hp=>hwq.cell (show p.block<_ by rw[hp];omega))
     have hYq:=hY.keep (fun p hp=>hwq.cell (show p.block<_ by rw[hp];omega))
     have hYfq:=(hwq.frozen (p:=⟨w1.heap.size+1,8,none⟩) (show w1.heap.size+1<wr.heap.size by omega)).trans hYf
     have hOq:=hO.below hwq
     have hbrq:=hbr.trans (hwq.mono hzz)
     have hHT:=RdT.below hTb (hwq.mono hwwr)
     have hyq:=hyb.keep (fun p hp=>hwq.cell (show p.block<_ by rw[hp];exact hbB1))
     have enq:=(hwq.cell (p:=⟨bB,oB+k*12,none⟩) hbB1).trans eb
     have hbB2:bB<wc.heap.size:=by omega
     have hzq2:w1.heap.size+2≤wc.heap.size:=by omega
     obtain ⟨n0,n1,n2,n3,n4,n5,n6,n7,n8,n9,n10,rfl,h1c⟩:=RdTS.eleven hTb
     obtain ⟨wz,hwz⟩:∃wz,wz=wc:=⟨_,rfl⟩
     subst hwz
     have HTQ:=Hd hHT
     have H1C:=Hd h1c
     have hlo:w.heap.size≤wz.heap.size:=by omega
     clear hX hY hYf hO hwq hrB hTb
     obtain ⟨q0,q1,q2,q3,q4,q5,q6,q7,q8,q9,q10⟩:=lie11 hyq
     have o0:=fun W a m=>run_store Tryz.prog W a n0 m (h1c n0 (by simp))
     have o1:=fun W a m=>run_store Tryz.prog W a n1 m (h1c n1 (by simp))
     have o2:=fun W a m=>run_store Tryz.prog W a n2 m (h1c n2 (by simp))
     have o3:=fun W a m=>run_store Tryz.prog W a n3 m (h1c n3 (by simp))
     have o4:=fun W a m=>run_store Tryz.prog W a n4 m (h1c n4 (by simp))
     have o5:=fun W a m=>run_store Tryz.prog W a n5 m (h1c n5 (by simp))
     have o6:=fun W a m=>run_store Tryz.prog W a n6 m (h1c n6 (by simp))
     have o7:=fun W a m=>run_store Tryz.prog W a n7 m (h1c n7 (by simp))
     have o8:=fun W a m=>run_store Tryz.prog W a n8 m (h1c n8 (by simp))
     have o9:=fun W a m=>run_store Tryz.prog W a n9 m (h1c n9 (by simp))
     have o10:=fun W a m=>run_store Tryz.prog W a n10 m (h1c n10 (by simp))
     have o11:=fun (W:World) (a:Addr) (m:Mode) (x:Nat)=>run_store Tryz.prog W a (.float .f64 x) m rfl
     go_wp2_with fail
     clear q0 q1 q2 q3 q4 q5 q6 q7 q8 q9 q10 o0 o1 o2 o3 o4 o5 o6 o7 o8 o9 o10 o11 hyq enq
     clear hbr hzr hzz hbw hwwr hzq
     have hWNs:(wz.alloc (.cells #[.string pb.1,n0,n1,n2,n3,n4,n5,n6,n7,n8,n9,n10] 37)).heap.size=wz.heap.size+1:=by simp
     have hWNb:Below wz.heap.size wz (wz.alloc (.cells #[.string pb.1,n0,n1,n2,n3,n4,n5,n6,n7,n8,n9,n10] 37)):=bnew
     have HLN:Hid (Lie (wz.alloc (.cells #[.string pb.1,n0,n1,n2,n3,n4,n5,n6,n7,n8,n9,n10] 37)) wz.heap.size 0 [.string pb.1,n0,n1,n2,n3,n4,n5,n6,n7,n8,n9,n10]):=Hd (by
      intro j u hj
      rw[show (wz.alloc (.cells #[.string pb.1,n0,n1,n2,n3,n4,n5,n6,n7,n8,n9,n10] 37)).cell? ⟨wz.heap.size,0+j,none⟩=([.string pb.1,n0,n1,n2,n3,n4,n5,n6,n7,n8,n9,n10]:List Value)[j]? by simp[go_sem]]
      exact hj)
     go_loopw [15,16] (fun nv jv wx=>∃j:Nat,jv=.int .i64 j∧nv=.bool (namedIn (L.take j) pb.1)∧j≤L.length∧Below (wz.alloc (.cells #[.string pb.1,n0,n1,n2,n3,n4,n5,n6,n7,n8,n9,n10] 37)).heap.size (wz.alloc (.cells #[.string pb.1,n0,n1,n2,n3,n4,n5,n6,n7,n8,n9,n10] 37)) wx) (fun _ jv _=>L.length-(intOf jv).toNat)
     case atStart=>exact ⟨0,rfl,rfl,Nat.zero_le _,Below.refl _ _⟩
     case round =>
      obtain ⟨j,rfl,rfl,hj,hbx⟩:=hrel
      have hzx:wz.heap.size+1≤wr.heap.size:=by have:=hbx.size;rw[hWNs]at this;exact this
      have hqx:Below wz.heap.size wz wr:=hWNb.trans (hbx.mono (by rw[hWNs];omega))
      have hb1x:Below w1.heap.size w1 wr:=hbrq.trans (hqx.mono (by omega))
      have hNx:=HLN.out.keep (fun p hp=>hbx.cell (show p.block<_ by rw[hp,hWNs];omega))
      by_cases hjl:j<L.length
      ·obtain ⟨bL,oL,rfl,hbL,hcL⟩:=hWL.resolve_left (fun h=>by rw[h]at hjl;simp at hjl)
       obtain ⟨x,hx⟩:∃x,L[j]?=some x:=⟨_,List.getElem?_eq_getElem hjl⟩
       have ex:=(hb1x.cell (p:=⟨bL,oL+j,none⟩) hbL).trans (hcL j x hx)
       have en:=hNx 0 _ rfl
       simp only[Nat.add_zero]at en
       have hbL2:bL<wr.heap.size:=by omega
       have hqL:wz.heap.size<wr.heap.size:=by omega
       have HS:=Hd (namedIn_snoc L x pb.1 j hx)
       clear hx hNx
       cases hnm:namedIn (L.take j) pb.1 <;> rw[hnm]at HS
       ·go_wp2_with fail
        refine wp_region_below_lit (by kernel_rfl) (by kernel_rfl) ?_
        repeat (refine WpC.step (fun K hK=>?_);go_simp;first|(refine hK _ ?_;clear hK K)|(apply Exists.intro;refine ⟨fun W hW=>?_,hK _ ?_⟩;(first|(intros;rfl)|(refine ⟨rfl,?_⟩;rfl)|((have ex2:=(hW.cell (p:=⟨bL,oL+j,none⟩) hbL2).trans ex;have en2:=(hW.cell (p:=⟨wz.heap.size,0,none⟩) hqL).trans en;go_simp;rfl))|((fail)));clear hK K))
        refine WpC.nil ?_
        intro wq hwq
        go_wp2
        refine ⟨⟨j+1,rfl,by rw[HS.out,Bool.false_or],hjl,hbx.trans (hwq.mono (by rw[hWNs];omega))⟩,?_⟩
        simp[intOf]
        omega
       ·go_wp2_with fail
        refine wp_region_below_lit (by kernel_rfl) (by kernel_rfl) ?_
        repeat (refine WpC.step (fun K hK=>?_);go_simp;first|(refine hK _ ?_;clear hK K)|(apply Exists.intro;refine ⟨fun W hW=>?_,hK _ ?_⟩;(first|(intros;rfl)|(refine ⟨rfl,?_⟩;rfl)|((fail))|((fail)));clear hK K))
        refine WpC.nil ?_
        intro wq hwq
        go_wp2
        refine ⟨⟨j+1,rfl,by rw[HS.out];rfl,hjl,hbx.trans (hwq.mono (by rw[hWNs];omega))⟩,?_⟩
        simp[intOf]
        omega
      ·obtain rfl:j=L.length:=by omega
       rw[List.take_length]
       have hXx:=hXq.keep (fun p hp=>hqx.cell (show p.block<_ by rw[hp];omega))
       have hYx:=hYq.keep (fun p hp=>hqx.cell (show p.block<_ by rw[hp];omega))
       have hYfx:=(hqx.frozen (p:=⟨w1.heap.size+1,8,none⟩) (show w1.heap.size+1<wz.heap.size by omega)).trans hYfq
       have hOx:=hOq.below hqx
       have HTx:Hid (RdT wr w.heap.size pb.2 [n0,n1,n2,n3,n4,n5,n6,n7,n8,n9,n10]):=Hd (RdT.below HTQ.out (hqx.mono hlo))
       have hzxx:w1.heap.size+2≤wr.heap.size:=by omega
       cases hnm:namedIn L pb.1
       ·have HF2:=Hd ((show ((F++[pb]).filter fun p=>namedIn L p.1)=F.filter fun p=>namedIn L p.1 by rw[List.filter_append];simp[hnm]).trans HF.out)
        clear HF
        have d8:=hYx 8 _ rfl
        simp only[Nat.zero_add]at d8
        have r0:=hNx 0 _ rfl
        have r1:=hNx 1 _ rfl
        have r2:=hNx 2 _ rfl
        have r3:=hNx 3 _ rfl
        have r4:=hNx 4 _ rfl
        have r5:=hNx 5 _ rfl
        have r6:=hNx 6 _ rfl
        have r7:=hNx 7 _ rfl
        have r8:=hNx 8 _ rfl
        have r9:=hNx 9 _ rfl
        have r10:=hNx 10 _ rfl
        have r11:=hNx 11 _ rfl
        simp only[Nat.zero_add,Nat.add_zero]at r0 r1 r2 r3 r4 r5 r6 r7 r8 r9 r10 r11
        have hbA9:Below wr.heap.size wr (wr.alloc (.cells #[.string pb.1,n0,n1,n2,n3,n4,n5,n6,n7,n8,n9,n10] 37)):=bnew
        have hOA:=hOx.below hbA9
        obtain ⟨xs,hown,hxs⟩:=hOA
        have hyA:bearsE.rd (wr.alloc (.cells #[.string pb.1,n0,n1,n2,n3,n4,n5,n6,n7,n8,n9,n10] 37)) (Fresh (fun b=>b<w.heap.size) (wr.alloc (.cells #[.string pb.1,n0,n1,n2,n3,n4,n5,n6,n7,n8,n9,n10] 37)) (.slice Av F.length cv)) pb [.string pb.1,n0,n1,n2,n3,n4,n5,n6,n7,n8,n9,n10]:=
         ⟨_,rfl,hnsb,RdTS.more (fun b hb9=>⟨hb9,Nat.lt_of_lt_of_le (show b<wr.heap.size by omega) hbA9.size,fun he9=>by have:=(hown.lt b he9).1;omega⟩) _ _ (RdT.below HTx.out (hbA9.mono (by omega)))⟩
        have h1d:=H1C.out
        have hWAs:(wr.alloc (.cells #[.string pb.1,n0,n1,n2,n3,n4,n5,n6,n7,n8,n9,n10] 37)).heap.size=wr.heap.size+1:=by simp
        have HYx:=Hd hYx
        clear hYx hNx hOx
        go_wp2_with (at_builtin;go_must (refine wpList_append_lies _ rfl (.tmp 110) (.tmp 112) 28 rfl (w1.heap.size+2) 37 i0 _ 12 168 Tryz.underlying28 hi0 hz0 hz1 hz2 rfl (by omega) (.slice Av F.length cv) F.length xs rfl hown ⟨wr.heap.size,0,none⟩ 1 1 [.string pb.1,n0,n1,n2,n3,n4,n5,n6,n7,n8,n9,n10] rfl rfl (news_at rfl) (fun x hx9=>(List.mem_cons.1 hx9).elim (fun h9=>h9▸rfl) (fun h9=>h1d x h9)) (by omega) (by simp only[maxLen];omega) (by omega) (by rw[hWAs];omega) _ rfl ?_);intro g cap w2 hown2 hg2 hat hlt2;have hB2:Below (w1.heap.size+2) wr w2:=(hbA9.mono (by omega)).grown hg2 (by rw[hWAs];omega) (fun j hj=>(hown.lt j hj).1);have e8:=(hB2.cell (p:=⟨w1.heap.size+1,8,none⟩) (show w1.heap.size+1<w1.heap.size+2 by omega)).trans d8;have f8:=(hB2.frozen (p:=⟨w1.heap.size+1,8,none⟩) (show w1.heap.size+1<w1.heap.size+2 by omega)).trans hYfx)
        have hO3:=OwnR.snoc (R:=bearsE) rfl hown hxs hyA hown2 hg2 hat
        have hlen:(F++[pb]).length=F.length+1:=by simp
        have hO4:=hO3.beside ((Bes.refl (w1.heap.size+1) w2).set 8 (.slice (some ⟨g,0,none⟩) (F.length+1) cap)) (by omega) (fun b hb9=>by have:b<w.heap.size:=hb9;omega)
        have hw3:Below w1.heap.size w1 (w2.setCell ⟨w1.heap.size+1,8,none⟩ (.slice (some ⟨g,0,none⟩) (F.length+1) cap)):=(hb1x.trans (hB2.mono (by omega))).setCell (p:=⟨w1.heap.size+1,8,none⟩) (by show w1.heap.size≤w1.heap.size+1;omega) _
        have hX3:=(hXx.keep (fun p hp=>hB2.cell (show p.block<_ by rw[hp];omega))).keep (w':=w2.setCell ⟨w1.heap.size+1,8,none⟩ (.slice (some ⟨g,0,none⟩) (F.length+1) cap)) (fun p hp=>World.cell?_setCell_other _ _ _ _ (fun h=>by rw[←h]at hp;simp at hp))
        have hYw:=HYx.out.keep (fun p hp=>hB2.cell (show p.block<_ by rw[hp];omega))
        have hY3:Lie (w2.setCell ⟨w1.heap.size+1,8,none⟩ (.slice (some ⟨g,0,none⟩) (F.length+1) cap)) (w1.heap.size+1) 0 [.int .i64 9,.bool false,.int .i64 0,.float .f64 0,.string ⟨#[]⟩,.slice none 0 0,.int .u64 0,.slice none 0 0,.slice (some ⟨g,0,none⟩) (F.length+1) cap,.string ⟨#[]⟩,.int .i64 0]:=by
         intro j u hj
         by_cases h8:j=8
         ·subst h8
          injection hj with hj
          subst hj
          exact World.cell?_setCell_same _ _ _ e8
         ·have hj2:(([.int .i64 9,.bool false,.int .i64 0,.float .f64 0,.string ⟨#[]⟩,.slice none 0 0,.int .u64 0,.slice none 0 0,.slice Av F.length cv,.string ⟨#[]⟩,.int .i64 0]:List Value).set 8 (.slice (some ⟨g,0,none⟩) (F.length+1) cap))[j]?=some u:=hj
          rw[List.getElem?_set_ne (by omega)]at hj2
          exact (World.cell?_setCell_other _ _ _ _ (fun h=>by injection h with h1 h2;omega)).trans (hYw j u hj2)
        have hz3:(w2.setCell ⟨w1.heap.size+1,8,none⟩ (.slice (some ⟨g,0,none⟩) (F.length+1) cap)).heap.size=w2.heap.size:=by simp
        have hz4:=hB2.size
        refine ⟨⟨_,k+1,F++[pb],some ⟨g,0,none⟩,cap,rfl,rfl,by omega,by omega,hw3,by rw[hz3];omega,hX3,by rw[hlen];exact hY3,by rw[World.frozen?_setCell];exact f8,by rw[hlen];exact hO4,by rw[hlen];omega,HF2⟩,?_⟩
        simp[intOf]
        omega
       ·go_wp2
        refine ⟨⟨_,k+1,F,Av,cv,rfl,rfl,by omega,by omega,hb1x,hzxx,hXx,hYx,hYfx,hOx,by omega,HF⟩,?_⟩
        simp[intOf]
        omega
    ·have hlt:i<a.length:=hf1 rfl
     clear hf1 hf2
     obtain ⟨pa,hpa⟩:∃p,a[i]?=some p:=⟨_,List.getElem?_eq_getElem (by omega)⟩
     obtain ⟨bA,oA,rfl,hbA,hrA⟩:=EntsAt.at_ (EntsAt.below ha hbw) (k:=i) (by omega)
     obtain ⟨ea,hnsa,ya,hya,hTa⟩:=RdTD.iff.1 hrA i _ hpa
     have hbA1:bA<wr.heap.size:=by omega
     have hzq:wr.heap.size≤wc.heap.size:=hwq.size
     have hXq:=hX.keep (fun p hp=>hwq.cell (show p.block<_ by rw[hp];omega))
     have hYq:=hY.keep (fun p hp=>hwq.cell (show p.block<_ by rw[hp];omega))
     have hYfq:=(hwq.frozen (p:=⟨w1.heap.size+1,8,none⟩) (show w1.heap.size+1<wr.heap.size by omega)).trans hYf
     have hOq:=hO.below hwq
     have hbrq:=hbr.trans (hwq.mono hzz)
     have hHT:=RdT.below hTa (hwq.mono hwwr)
     have hyq:=hya.keep (fun p hp=>hwq.cell (show p.block<_ by rw[hp];exact hbA1))
     have enq:=(hwq.cell (p:=⟨bA,oA+i*12,none⟩) hbA1).trans ea
     have hbA2:bA<wc.heap.size:=by omega
     have hzq2:w1.heap.size+2≤wc.heap.size:=by omega
     obtain ⟨n0,n1,n2,n3,n4,n5,n6,n7,n8,n9,n10,rfl,h1c⟩:=RdTS.eleven hTa
     obtain ⟨wz,hwz⟩:∃wz,wz=wc:=⟨_,rfl⟩
     subst hwz
     have HTQ:=Hd hHT
     have H1C:=Hd h1c
     have hlo:w.heap.size≤wz.heap.size:=by omega
     clear hX hY hYf hO hwq hrA hTa
     obtain ⟨q0,q1,q2,q3,q4,q5,q6,q7,q8,q9,q10⟩:=lie11 hyq
     have o0:=fun W a m=>run_store Tryz.prog W a n0 m (h1c n0 (by simp))
     have o1:=fun W a m=>run_store Tryz.prog W a n1 m (h1c n1 (by simp))
     have o2:=fun W a m=>run_store Tryz.prog W a n2 m (h1c n2 (by simp))
     have o3:=fun W a m=>run_store Tryz.prog W a n3 m (h1c n3 (by simp))
     have o4:=fun W a m=>run_store Tryz.prog W a n4 m (h1c n4 (by simp))
     have o5:=fun W a m=>run_store Tryz.prog W a n5 m (h1c n5 (by simp))
     have o6:=fun W a m=>run_store Tryz.prog W a n6 m (h1c n6 (by simp))
     have o7:=fun W a m=>run_store Tryz.prog W a n7 m (h1c n7 (by simp))
     have o8:=fun W a m=>run_store Tryz.prog W a n8 m (h1c n8 (by simp))
     have o9:=fun W a m=>run_store Tryz.prog W a n9 m (h1c n9 (by simp))
     have o10:=fun W a m=>run_store Tryz.prog W a n10 m (h1c n10 (by simp))
     have o11:=fun (W:World) (a:Addr) (m:Mode) (x:Nat)=>run_store Tryz.prog W a (.float .f64 x) m rfl
     go_wp2_with fail
     clear q0 q1 q2 q3 q4 q5 q6 q7 q8 q9 q10 o0 o1 o2 o3 o4 o5 o6 o7 o8 o9 o10 o11 hyq enq
     clear hbr hzr hzz hbw hwwr hzq
     have hWNs:(wz.alloc (.cells #[.string pa.1,n0,n1,n2,n3,n4,n5,n6,n7,n8,n9,n10] 37)).heap.size=wz.heap.size+1:=by simp
     have hWNb:Below wz.heap.size wz (wz.alloc (.cells #[.string pa.1,n0,n1,n2,n3,n4,n5,n6,n7,n8,n9,n10] 37)):=bnew
     have HLN:Hid (Lie (wz.alloc (.cells #[.string pa.1,n0,n1,n2,n3,n4,n5,n6,n7,n8,n9,n10] 37)) wz.heap.size 0 [.string pa.1,n0,n1,n2,n3,n4,n5,n6,n7,n8,n9,n10]):=Hd (by
      intro j u hj
      rw[show (wz.alloc (.cells #[.string pa.1,n0,n1,n2,n3,n4,n5,n6,n7,n8,n9,n10] 37)).cell? ⟨wz.heap.size,0+j,none⟩=([.string pa.1,n0,n1,n2,n3,n4,n5,n6,n7,n8,n9,n10]:List Value)[j]? by simp[go_sem]]
      exact hj)
     go_loopw [15,16] (fun nv jv wx=>∃j:Nat,jv=.int .i64 j∧nv=.bool (namedIn (L.take j) pa.1)∧j≤L.length∧Below (wz.alloc (.cells #[.string pa.1,n0,n1,n2,n3,n4,n5,n6,n7,n8,n9,n10] 37)).heap.size (wz.alloc (.cells #[.string pa.1,n0,n1,n2,n3,n4,n5,n6,n7,n8,n9,n10] 37)) wx) (fun _ jv _=>L.length-(intOf jv).toNat)
     case atStart=>exact ⟨0,rfl,rfl,Nat.zero_le _,Below.refl _ _⟩
     case round =>
      obtain ⟨j,rfl,rfl,hj,hbx⟩:=hrel
      have hzx:wz.heap.size+1≤wr.heap.size:=by have:=hbx.size;rw[hWNs]at this;exact this
      have hqx:Below wz.heap.size wz wr:=hWNb.trans (hbx.mono (by rw[hWNs];omega))
      have hb1x:Below w1.heap.size w1 wr:=hbrq.trans (hqx.mono (by omega))
      have hNx:=HLN.out.keep (fun p hp=>hbx.cell (show p.block<_ by rw[hp,hWNs];omega))
      by_cases hjl:j<L.length
      ·obtain ⟨bL,oL,rfl,hbL,hcL⟩:=hWL.resolve_left (fun h=>by rw[h]at hjl;simp at hjl)
       obtain ⟨x,hx⟩:∃x,L[j]?=some x:=⟨_,List.getElem?_eq_getElem hjl⟩
       have ex:=(hb1x.cell (p:=⟨bL,oL+j,none⟩) hbL).trans (hcL j x hx)
       have en:=hNx 0 _ rfl
       simp only[Nat.add_zero]at en
       have hbL2:bL<wr.heap.size:=by omega
       have hqL:wz.heap.size<wr.heap.size:=by omega
       have HS:=Hd (namedIn_snoc L x pa.1 j hx)
       clear hx hNx
       cases hnm:namedIn (L.take j) pa.1 <;> rw[hnm]at HS
       ·go_wp2_with fail
        refine wp_region_below_lit (by kernel_rfl) (by kernel_rfl) ?_
        repeat (refine WpC.step (fun K hK=>?_);go_simp;first|(refine hK _ ?_;clear hK K)|(apply Exists.intro;refine ⟨fun W hW=>?_,hK _ ?_⟩;(first|(intros;rfl)|(refine ⟨rfl,?_⟩;rfl)|((have ex2:=(hW.cell (p:=⟨bL,oL+j,none⟩) hbL2).trans ex;have en2:=(hW.cell (p:=⟨wz.heap.size,0,none⟩) hqL).trans en;go_simp;rfl))|((fail)));clear hK K))
        refine WpC.nil ?_
        intro wq hwq
        go_wp2
        refine ⟨⟨j+1,rfl,by rw[HS.out,Bool.false_or],hjl,hbx.trans (hwq.mono (by rw[hWNs];omega))⟩,?_⟩
        simp[intOf]
        omega
       ·go_wp2_with fail
        refine wp_region_below_lit (by kernel_rfl) (by kernel_rfl) ?_
        repeat (refine WpC.step (fun K hK=>?_);go_simp;first|(refine hK _ ?_;clear hK K)|(apply Exists.intro;refine ⟨fun W hW=>?_,hK _ ?_⟩;(first|(intros;rfl)|(refine ⟨rfl,?_⟩;rfl)|((fail))|((fail)));clear hK K))
        refine WpC.nil ?_
        intro wq hwq
        go_wp2
        refine ⟨⟨j+1,rfl,by rw[HS.out];rfl,hjl,hbx.trans (hwq.mono (by rw[hWNs];omega))⟩,?_⟩
        simp[intOf]
        omega
      ·obtain rfl:j=L.length:=by omega
       rw[List.take_length]
       have hXx:=hXq.keep (fun p hp=>hqx.cell (show p.block<_ by rw[hp];omega))
       have hYx:=hYq.keep (fun p hp=>hqx.cell (show p.block<_ by rw[hp];omega))
       have hYfx:=(hqx.frozen (p:=⟨w1.heap.size+1,8,none⟩) (show w1.heap.size+1<wz.heap.size by omega)).trans hYfq
       have hOx:=hOq.below hqx
       have HTx:Hid (RdT wr w.heap.size pa.2 [n0,n1,n2,n3,n4,n5,n6,n7,n8,n9,n10]):=Hd (RdT.below HTQ.out (hqx.mono hlo))
       have hzxx:w1.heap.size+2≤wr.heap.size:=by omega
       cases hnm:namedIn L pa.1
       ·have HF2:Hid ((F.filter fun p=>namedIn L p.1)=(a.take (i+1)).filter fun p=>namedIn L p.1):=Hd (by rw[take_filter _ _ _ _ hpa,hnm,HF.out];simp)
        clear HF
        go_wp2
        refine ⟨⟨i+1,_,F,Av,cv,rfl,rfl,by omega,by omega,hb1x,hzxx,hXx,hYx,hYfx,hOx,by omega,HF2⟩,?_⟩
        simp[intOf]
        omega
       ·have HF2:Hid (((F++[pa]).filter fun p=>namedIn L p.1)=(a.take (i+1)).filter fun p=>namedIn L p.1):=Hd (by rw[take_filter _ _ _ _ hpa,hnm,List.filter_append,HF.out];simp[hnm])
        clear HF
        have d8:=hYx 8 _ rfl
        simp only[Nat.zero_add]at d8
        have r0:=hNx 0 _ rfl
        have r1:=hNx 1 _ rfl
        have r2:=hNx 2 _ rfl
        have r3:=hNx 3 _ rfl
        have r4:=hNx 4 _ rfl
        have r5:=hNx 5 _ rfl
        have r6:=hNx 6 _ rfl
        have r7:=hNx 7 _ rfl
        have r8:=hNx 8 _ rfl
        have r9:=hNx 9 _ rfl
        have r10:=hNx 10 _ rfl
        have r11:=hNx 11 _ rfl
        simp only[Nat.zero_add,Nat.add_zero]at r0 r1 r2 r3 r4 r5 r6 r7 r8 r9 r10 r11
        have hbA9:Below wr.heap.size wr (wr.alloc (.cells #[.string pa.1,n0,n1,n2,n3,n4,n5,n6,n7,n8,n9,n10] 37)):=bnew
        have hOA:=hOx.below hbA9
        obtain ⟨xs,hown,hxs⟩:=hOA
        have hyA:bearsE.rd (wr.alloc (.cells #[.string pa.1,n0,n1,n2,n3,n4,n5,n6,n7,n8,n9,n10] 37)) (Fresh (fun b=>b<w.heap.size) (wr.alloc (.cells #[.string pa.1,n0,n1,n2,n3,n4,n5,n6,n7,n8,n9,n10] 37)) (.slice Av F.length cv)) pa [.string pa.1,n0,n1,n2,n3,n4,n5,n6,n7,n8,n9,n10]:=
         ⟨_,rfl,hnsa,RdTS.more (fun b hb9=>⟨hb9,Nat.lt_of_lt_of_le (show b<wr.heap.size by omega) hbA9.size,fun he9=>by have:=(hown.lt b he9).1;omega⟩) _ _ (RdT.below HTx.out (hbA9.mono (by omega)))⟩
        have h1d:=H1C.out
        have hWAs:(wr.alloc (.cells #[.string pa.1,n0,n1,n2,n3,n4,n5,n6,n7,n8,n9,n10] 37)).heap.size=wr.heap.size+1:=by simp
        have HYx:=Hd hYx
        clear hYx hNx hOx
        go_wp2_with (at_builtin;go_must (refine wpList_append_lies _ rfl (.tmp 110) (.tmp 112) 28 rfl (w1.heap.size+2) 37 i0 _ 12 168 Tryz.underlying28 hi0 hz0 hz1 hz2 rfl (by omega) (.slice Av F.length cv) F.length xs rfl hown ⟨wr.heap.size,0,none⟩ 1 1 [.string pa.1,n0,n1,n2,n3,n4,n5,n6,n7,n8,n9,n10] rfl rfl (news_at rfl) (fun x hx9=>(List.mem_cons.1 hx9).elim (fun h9=>h9▸rfl) (fun h9=>h1d x h9)) (by omega) (by simp only[maxLen];omega) (by omega) (by rw[hWAs];omega) _ rfl ?_);intro g cap w2 hown2 hg2 hat hlt2;have hB2:Below (w1.heap.size+2) wr w2:=(hbA9.mono (by omega)).grown hg2 (by rw[hWAs];omega) (fun j hj=>(hown.lt j hj).1);have e8:=(hB2.cell (p:=⟨w1.heap.size+1,8,none⟩) (show w1.heap.size+1<w1.heap.size+2 by omega)).trans d8;have f8:=(hB2.frozen (p:=⟨w1.heap.size+1,8,none⟩) (show w1.heap.size+1<w1.heap.size+2 by omega)).trans hYfx)
        have hO3:=OwnR.snoc (R:=bearsE) rfl hown hxs hyA hown2 hg2 hat
        have hlen:(F++[pa]).length=F.length+1:=by simp
        have hO4:=hO3.beside ((Bes.refl (w1.heap.size+1) w2).set 8 (.slice (some ⟨g,0,none⟩) (F.length+1) cap)) (by omega) (fun b hb9=>by have:b<w.heap.size:=hb9;omega)
        have hw3:Below w1.heap.size w1 (w2.setCell ⟨w1.heap.size+1,8,none⟩ (.slice (some ⟨g,0,none⟩) (F.length+1) cap)):=(hb1x.trans (hB2.mono (by omega))).setCell (p:=⟨w1.heap.size+1,8,none⟩) (by show w1.heap.size≤w1.heap.size+1;omega) _
        have hX3:=(hXx.keep (fun p hp=>hB2.cell (show p.block<_ by rw[hp];omega))).keep (w':=w2.setCell ⟨w1.heap.size+1,8,none⟩ (.slice (some ⟨g,0,none⟩) (F.length+1) cap)) (fun p hp=>World.cell?_setCell_other _ _ _ _ (fun h=>by rw[←h]at hp;simp at hp))
        have hYw:=HYx.out.keep (fun p hp=>hB2.cell (show p.block<_ by rw[hp];omega))
        have hY3:Lie (w2.setCell ⟨w1.heap.size+1,8,none⟩ (.slice (some ⟨g,0,none⟩) (F.length+1) cap)) (w1.heap.size+1) 0 [.int .i64 9,.bool false,.int .i64 0,.float .f64 0,.string ⟨#[]⟩,.slice none 0 0,.int .u64 0,.slice none 0 0,.slice (some ⟨g,0,none⟩) (F.length+1) cap,.string ⟨#[]⟩,.int .i64 0]:=by
         intro j u hj
         by_cases h8:j=8
         ·subst h8
          injection hj with hj
          subst hj
          exact World.cell?_setCell_same _ _ _ e8
         ·have hj2:(([.int .i64 9,.bool false,.int .i64 0,.float .f64 0,.string ⟨#[]⟩,.slice none 0 0,.int .u64 0,.slice none 0 0,.slice Av F.length cv,.string ⟨#[]⟩,.int .i64 0]:List Value).set 8 (.slice (some ⟨g,0,none⟩) (F.length+1) cap))[j]?=some u:=hj
          rw[List.getElem?_set_ne (by omega)]at hj2
          exact (World.cell?_setCell_other _ _ _ _ (fun h=>by injection h with h1 h2;omega)).trans (hYw j u hj2)
        have hz3:(w2.setCell ⟨w1.heap.size+1,8,none⟩ (.slice (some ⟨g,0,none⟩) (F.length+1) cap)).heap.size=w2.heap.size:=by simp
        have hz4:=hB2.size
        refine ⟨⟨i+1,_,F++[pa],some ⟨g,0,none⟩,cap,rfl,rfl,by omega,by omega,hw3,by rw[hz3];omega,hX3,by rw[hlen];exact hY3,by rw[World.frozen?_setCell];exact f8,by rw[hlen];exact hO4,by rw[hlen];omega,HF2⟩,?_⟩
        simp[intOf]
        omega
  ·obtain rfl:i=a.length:=by omega
   obtain rfl:k=b.length:=by omega
   rw[List.take_length]at HF
   have hEA:EntsAt wr w.heap.size Aa a:=EntsAt.below ha hbw
   have hEA2:EntsAt wr wr.heap.size Aa a:=hEA.more hwwr
   have HTX:Hid (RdT wr wr.heap.size (dictT a) [.int .i64 9,.bool false,.int .i64 0,.float .f64 0,.string ⟨#[]⟩,.slice none 0 0,.int .u64 0,.slice none 0 0,.slice Aa a.length ca,.string ⟨#[]⟩,.int .i64 0]):=Hd ⟨none,0,none,0,Aa,ca,rfl,⟨by decide,by decide⟩,⟨by decide,by decide⟩,by decide,by decide,⟨fun _=>rfl,.inl rfl⟩,by decide,by decide,by decide,⟨by decide,by decide⟩,⟨by decide,.inl rfl⟩,⟨by omega,hEA2⟩⟩
   obtain ⟨Av2,cv2,hav,hR⟩:=hO.read
   injection hav with h1 h2 h3
   subst h1
   subst h3
   have HTY:Hid (RdT wr wr.heap.size (dictT F) [.int .i64 9,.bool false,.int .i64 0,.float .f64 0,.string ⟨#[]⟩,.slice none 0 0,.int .u64 0,.slice none 0 0,.slice Av F.length cv,.string ⟨#[]⟩,.int .i64 0]):=Hd ⟨none,0,none,0,Av,cv,rfl,⟨by decide,by decide⟩,⟨by decide,by decide⟩,by decide,by decide,⟨fun _=>rfl,.inl rfl⟩,by decide,by decide,by decide,⟨by decide,by decide⟩,⟨by decide,.inl rfl⟩,⟨by omega,RowsAt.more hR (fun b h=>h.2) |> rowsE_iff.1⟩⟩
   have HCX:=Hd (rcheck_any (dictT a) _ wr HTX.out)
   have HCY:=Hd (fun (W:World) (hW:Below wr.heap.size wr W)=>rcheck_any (dictT F) _ W (RdT.more hW.size _ _ (RdT.below HTY.out hW)))
   unfold termOf at HCX HCY
   have HXl:=Hd hX
   have HYl:=Hd hY
   obtain ⟨q0,q1,q2,q3,q4,q5,q6,q7,q8,q9,q10⟩:=lie11 hX
   simp only[Nat.zero_add]at q1 q2 q3 q4 q5 q6 q7 q8 q9 q10
   clear hX hY hYf hO hR hEA hEA2 hFl
   go_wp2_with fail
   refine HCX.out.mono ?_
   rintro y w2 ⟨rfl,hb2⟩
   have hY2:=HYl.out.keep (fun p hp=>hb2.cell (show p.block<_ by rw[hp];omega))
   clear q0 q1 q2 q3 q4 q5 q6 q7 q8 q9 q10
   obtain ⟨q0,q1,q2,q3,q4,q5,q6,q7,q8,q9,q10⟩:=lie11 hY2
   simp only[Nat.zero_add]at q1 q2 q3 q4 q5 q6 q7 q8 q9 q10
   go_wp2_with fail
   refine (HCY.out _ hb2).mono ?_
   rintro y w3 ⟨rfl,hb3⟩
   clear q0 q1 q2 q3 q4 q5 q6 q7 q8 q9 q10 hY2
   have hb03:Below wr.heap.size wr w3:=hb2.trans (hb3.mono hb2.size)
   have hW3:Below w.heap.size w w3:=hbw.trans (hb03.mono hwwr)
   have h13:Below w1.heap.size w1 w3:=hbr.trans (hb03.mono hzz)
   have hz3:wr.heap.size≤w3.heap.size:=hb03.size
   have hWw:Words w3 (fun b=>b<w3.heap.size) 1 kindWords:=(hw.below (fun b h=>h) hW3).more (fun b h=>Nat.lt_of_lt_of_le h hW3.size)
   have hWw2:Words w3 (fun b=>b<w3.heap.size) 2 wordList:=(hw2.below (fun b h=>h) hW3).more (fun b h=>Nat.lt_of_lt_of_le h hW3.size)
   have HWw:=Hd hWw
   have HWw2:=Hd hWw2
   have HLE3:Hid (Lie w3 w.heap.size 0 [x0,x1,x2,x3,x4,x5,x6,x7,x8,x9,x10,x11,x12,x13,x14]):=Hd (HLE.out.keep (fun p hp=>h13.cell (show p.block<_ by rw[hp];omega)))
   have HLX3:Hid (Lie w3 w1.heap.size 0 [.int .i64 9,.bool false,.int .i64 0,.float .f64 0,.string ⟨#[]⟩,.slice none 0 0,.int .u64 0,.slice none 0 0,.slice Aa a.length ca,.string ⟨#[]⟩,.int .i64 0]):=Hd (HXl.out.keep (fun p hp=>hb03.cell (show p.block<_ by rw[hp];omega)))
   have HLY3:Hid (Lie w3 (w1.heap.size+1) 0 [.int .i64 9,.bool false,.int .i64 0,.float .f64 0,.string ⟨#[]⟩,.slice none 0 0,.int .u64 0,.slice none 0 0,.slice Av F.length cv,.string ⟨#[]⟩,.int .i64 0]):=Hd (HYl.out.keep (fun p hp=>hb03.cell (show p.block<_ by rw[hp];omega)))
   have HRE3:Hid (RdE w3 w3.heap.size e [x0,x1,x2,x3,x4,x5,x6,x7,x8,x9,x10,x11,x12,x13,x14]):=Hd (RdE.more hW3.size _ _ (RdE.below HE.out hW3))
   have HTX3:Hid (RdT w3 w3.heap.size (dictT a) [.int .i64 9,.bool false,.int .i64 0,.float .f64 0,.string ⟨#[]⟩,.slice none 0 0,.int .u64 0,.slice none 0 0,.slice Aa a.length ca,.string ⟨#[]⟩,.int .i64 0]):=Hd (RdT.more hz3 _ _ (RdT.below HTX.out hb03))
   have HTY3:Hid (RdT w3 w3.heap.size (dictT F) [.int .i64 9,.bool false,.int .i64 0,.float .f64 0,.string ⟨#[]⟩,.slice none 0 0,.int .u64 0,.slice none 0 0,.slice Av F.length cv,.string ⟨#[]⟩,.int .i64 0]):=Hd (RdT.more hz3 _ _ (RdT.below HTY.out hb03))
   have hwi:w.heap.size<w3.heap.size:=by omega
   have hxi:w1.heap.size<w3.heap.size:=by omega
   have hyi:w1.heap.size+1<w3.heap.size:=by omega
   have HKB:Hid (∀W,Below w3.heap.size w3 W→Below w.heap.size w W):=Hd (fun W h=>hW3.trans (h.mono hW3.size))
   clear hb2 hb3 hb03 h13 hWw hWw2 hbr hbw hzz hzr hwwr hb01 hb1 hs1 ha hb hw hw2 hi0 hz0 hz1 hz2
   clear HXl HYl HTX HTY HCX HCY HLE HE HB0 HN1 hsz0 hik hi hk
   by_cases hgood:only=true∧(checkV (builtV (dictT a))).2=0∧(checkV (builtV (dictT F))).2=0
   ·obtain ⟨rfl,g1,g2⟩:=hgood
    have HEQ:=Hd (evalR_same (askSame_law (HAS.out rfl) HF.out) g1 g2)
    have HCK:=Hd (evalR_check e (builtV (dictT a)))
    rw[g1,g2]
    have HT1:Hid (∀(x:List Value) (vv:Value) (W:World),RdE W W.heap.size e x→Rd W W.heap.size (builtV (dictT a)) vv→Below w3.heap.size w3 W→Calls Tryz.prog 8 #[termOf x,vv] W (TellPost (evalR e (builtV (dictT a))) W)):=Hd (fun x vv W h1 h2 h3=>tell_any e x _ vv (fun b=>b<W.heap.size) W (fun b h=>h) h1 h2 ((HWw.out.below (fun b h=>h) h3).more (fun b h=>Nat.lt_of_lt_of_le h h3.size)) ((HWw2.out.below (fun b h=>h) h3).more (fun b h=>Nat.lt_of_lt_of_le h h3.size)))
    have HT2:Hid (∀(x:List Value) (vv:Value) (W:World),RdE W W.heap.size e x→Rd W W.heap.size (builtV (dictT F)) vv→Below w3.heap.size w3 W→Calls Tryz.prog 8 #[termOf x,vv] W (TellPost (evalR e (builtV (dictT a))) W)):=Hd (fun x vv W h1 h2 h3=>HEQ.out▸tell_any e x _ vv (fun b=>b<W.heap.size) W (fun b h=>h) h1 h2 ((HWw.out.below (fun b h=>h) h3).more (fun b h=>Nat.lt_of_lt_of_le h h3.size)) ((HWw2.out.below (fun b h=>h) h3).more (fun b h=>Nat.lt_of_lt_of_le h h3.size)))
    have HCP:=Hd (fun (W:World) (hW:Below w3.heap.size w3 W)=>exCopied_any e _ (fun b=>b<W.heap.size) W (fun b h=>h) (RdE.more hW.size _ _ (RdE.below HRE3.out hW)))
    have HBX:=Hd (fun (W:World) (hW:Below w3.heap.size w3 W)=>built_any (dictT a) _ W (RdT.more hW.size _ _ (RdT.below HTX3.out hW)))
    have HBY:=Hd (fun (W:World) (hW:Below w3.heap.size w3 W)=>built_any (dictT F) _ W (RdT.more hW.size _ _ (RdT.below HTY3.out hW)))
    unfold termOf at HT1 HT2 HCP HBX HBY
    have HPL:=Hd (fun (vv:Value) (W:World)=>Plain_ok (evalR e (builtV (dictT a))).1 (okV_tiny (okV_check.2 HCK.out)) vv W)
    have HSS:=Hd (same_self (evalR e (builtV (dictT a))).1 1 0 (okV_tiny (okV_check.2 HCK.out)) (by omega))
    generalize plainT (evalR e (builtV (dictT a))).1 0=PT at HPL HSS
    have HSM:=Hd (fun (x y:List Value) (W:World) (h1:RdT W W.heap.size PT x) (h2:RdT W W.heap.size PT y)=>sameT_any PT PT x y W h1 h2)
    rw[HSS.out]at HSM
    unfold TellPost at HT1 HT2
    clear g1 g2 HAS HF HEQ HCK HWw HWw2 HRE3 HTX3 HTY3 HSS
    generalize evalR e (builtV (dictT a))=R at *
    obtain ⟨rv,ra,rw⟩:=R
    simp only at HPL HT1 HT2
    go_wp2_with fail
    refine wp_region_mix (fun W=>Below w3.heap.size w3 W) [(true,0),(true,2),(false,1),(false,3),(false,4),(true,5),(true,6),(true,7),(true,8),(true,9),(true,10),(true,11)] (by kernel_rfl) (by kernel_rfl) (fun _ _ _ _ _ h=>h) ?_ ?_
    ·((exact (Below.refl _ _).drew))
    simp only[pickM,List.getElem?_cons_succ,List.getElem?_cons_zero]
    repeat (refine MixS.head (fun K hK=>?_);go_simp;first|(refine hK _ ?_;clear hK K)|(apply Exists.intro;refine ⟨fun W hW=>?_,hK _ ?_⟩;(first|(intros;rfl)|((have h3W:Below w3.heap.size w3 W:=(Below.refl w3.heap.size w3).trans (hW.mono (Below.refl w3.heap.size w3).size);first|(have le:=HLE3.out.keep (fun p hp=>h3W.cell (show p.block<_ by rw[hp];exact hwi));(obtain ⟨q0,q1,q2,q3,q4,q5,q6,q7,q8,q9,q10,q11,q12,q13,q14⟩:=lie15 le);simp only[Nat.zero_add]at q1 q2 q3 q4 q5 q6 q7 q8 q9 q10 q11 q12 q13 q14;go_simp;rfl)|(have lx:=HLX3.out.keep (fun p hp=>h3W.cell (show p.block<_ by rw[hp];exact hxi));(obtain ⟨q0,q1,q2,q3,q4,q5,q6,q7,q8,q9,q10⟩:=lie11 lx);simp only[Nat.zero_add]at q1 q2 q3 q4 q5 q6 q7 q8 q9 q10;go_simp;rfl))));clear hK K))
    refine MixS.step (fun K hK=>?_)
    go_simp
    go_at_call 9
    refine (HCP.out _ (Below.refl w3.heap.size w3).drew).mono ?_
    rintro y w4 ⟨ye,rfl,hre,hb4⟩
    have hs4:Below w3.heap.size w3 w4:=(Below.refl w3.heap.size w3).drew.trans hb4
    have h34:Below w3.heap.size w3 w4:=(Below.refl w3.heap.size w3).trans (hs4.mono (Below.refl w3.heap.size w3).size)
    refine hK _ _ hs4 ?_
    clear hK K
    refine MixS.step (fun K hK=>?_)
    go_simp
    go_at_call 10
    refine (HBX.out _ h34).mono ?_
    rintro y w5 ⟨xv,rfl,hxv,hb5⟩
    have hs5:Below w3.heap.size w3 w5:=hs4.trans (hb5.mono hs4.size)
    have h35:Below w3.heap.size w3 w5:=h34.trans (hb5.mono h34.size)
    refine hK _ _ hs5 ?_
    clear hK K
    have hre5:RdE w5 w5.heap.size e ye:=RdE.more hb5.size _ _ (RdE.below (RdES.more (fun b h=>h.elim (fun h=>Nat.lt_of_lt_of_le h hb4.size) (fun h=>h.2)) _ _ hre) hb5)
    have hxv5:Rd w5 w5.heap.size _ xv:=RdS.more (fun b h=>h.2) _ _ hxv
    have HTE:=Hd (HT1.out ye xv w5 hre5 hxv5 h35)
    obtain ⟨d0,d1,d2,d3,d4,d5,d6,d7,d8,d9,d10,d11,d12,d13,d14,rfl,-⟩:=Ex.cells15 hre
    clear hre hre5 hxv hxv5
    refine MixS.step (fun K hK=>?_)
    go_simp
    go_at_call 8
    refine HTE.out.mono ?_
    rintro y w6 ⟨uv1,rfl,hb6,hu1⟩
    have hs6:Below w3.heap.size w3 w6:=hs5.trans (hb6.mono hs5.size)
    have hS6:Below w3.heap.size w3 w6:=h35.trans (hb6.mono h35.size)
    refine hK _ _ hs6 ?_
    clear hK K HTE
    (try simp only)
    repeat (refine MixS.head (fun K hK=>?_);go_simp;first|(refine hK _ ?_;clear hK K)|(apply Exists.intro;refine ⟨fun W hW=>?_,hK _ ?_⟩;(first|(intros;rfl)|(fail));clear hK K))
    refine MixS.nil ?_
    have hB6:Below w5.heap.size w5 w6:=hb6
    clear hs4 h34 hb4 hs5 h35 hb5 hb6
    go_wp2_with fail
    refine wp_region_mix (fun W=>Below w6.heap.size w6 W) [(true,0),(true,2),(false,1),(false,3),(false,4),(true,5),(true,6),(true,7),(true,8),(true,9),(true,10),(true,11)] (by kernel_rfl) (by kernel_rfl) (fun _ _ _ _ _ h=>h) ?_ ?_
    ·((exact (Below.refl _ _).drew))
    simp only[pickM,List.getElem?_cons_succ,List.getElem?_cons_zero]
    repeat (refine MixS.head (fun K hK=>?_);go_simp;first|(refine hK _ ?_;clear hK K)|(apply Exists.intro;refine ⟨fun W hW=>?_,hK _ ?_⟩;(first|(intros;rfl)|((have h3W:Below w3.heap.size w3 W:=(hS6).trans (hW.mono (hS6).size);first|(have le:=HLE3.out.keep (fun p hp=>h3W.cell (show p.block<_ by rw[hp];exact hwi));(obtain ⟨q0,q1,q2,q3,q4,q5,q6,q7,q8,q9,q10,q11,q12,q13,q14⟩:=lie15 le);simp only[Nat.zero_add]at q1 q2 q3 q4 q5 q6 q7 q8 q9 q10 q11 q12 q13 q14;go_simp;rfl)|(have lx:=HLY3.out.keep (fun p hp=>h3W.cell (show p.block<_ by rw[hp];exact hyi));(obtain ⟨q0,q1,q2,q3,q4,q5,q6,q7,q8,q9,q10⟩:=lie11 lx);simp only[Nat.zero_add]at q1 q2 q3 q4 q5 q6 q7 q8 q9 q10;go_simp;rfl))));clear hK K))
    refine MixS.step (fun K hK=>?_)
    go_simp
    go_at_call 9
    refine (HCP.out _ (hS6).drew).mono ?_
    rintro y w7 ⟨ye,rfl,hre,hb4⟩
    have hs4:Below w6.heap.size w6 w7:=(Below.refl w6.heap.size w6).drew.trans hb4
    have h34:Below w3.heap.size w3 w7:=(hS6).trans (hs4.mono (hS6).size)
    refine hK _ _ hs4 ?_
    clear hK K
    refine MixS.step (fun K hK=>?_)
    go_simp
    go_at_call 10
    refine (HBY.out _ h34).mono ?_
    rintro y w8 ⟨xv,rfl,hxv,hb5⟩
    have hs5:Below w6.heap.size w6 w8:=hs4.trans (hb5.mono hs4.size)
    have h35:Below w3.heap.size w3 w8:=h34.trans (hb5.mono h34.size)
    refine hK _ _ hs5 ?_
    clear hK K
    have hre5:RdE w8 w8.heap.size e ye:=RdE.more hb5.size _ _ (RdE.below (RdES.more (fun b h=>h.elim (fun h=>Nat.lt_of_lt_of_le h hb4.size) (fun h=>h.2)) _ _ hre) hb5)
    have hxv5:Rd w8 w8.heap.size _ xv:=RdS.more (fun b h=>h.2) _ _ hxv
    have HTE:=Hd (HT2.out ye xv w8 hre5 hxv5 h35)
    obtain ⟨d0,d1,d2,d3,d4,d5,d6,d7,d8,d9,d10,d11,d12,d13,d14,rfl,-⟩:=Ex.cells15 hre
    clear hre hre5 hxv hxv5
    refine MixS.step (fun K hK=>?_)
    go_simp
    go_at_call 8
    refine HTE.out.mono ?_
    rintro y w9 ⟨uv2,rfl,hb6,hu2⟩
    have hs6:Below w6.heap.size w6 w9:=hs5.trans (hb6.mono hs5.size)
    have hS9:Below w3.heap.size w3 w9:=h35.trans (hb6.mono h35.size)
    refine hK _ _ hs6 ?_
    clear hK K HTE
    (try simp only)
    repeat (refine MixS.head (fun K hK=>?_);go_simp;first|(refine hK _ ?_;clear hK K)|(apply Exists.intro;refine ⟨fun W hW=>?_,hK _ ?_⟩;(first|(intros;rfl)|(fail));clear hK K))
    refine MixS.nil ?_
    have hB9:Below w8.heap.size w8 w9:=hb6
    have hS69:Below w6.heap.size w6 w9:=hs6
    clear hs4 h34 hb4 hs5 h35 hb5 hb6
    have hr1:Rd w9 w9.heap.size rv uv1:=RdS.more (fun b h=>Nat.lt_of_lt_of_le h.2 hS69.size) _ _ (RdS.keep (fun p hp=>hS69.cell hp.2) _ _ hu1)
    have hr2:Rd w9 w9.heap.size rv uv2:=RdS.more (fun b h=>h.2) _ _ hu2
    have HP1:=Hd (HPL.out uv1 w9 hr1)
    have HP2:=Hd (fun (W:World) (hW:Below w9.heap.size w9 W)=>HPL.out uv2 W (Rd.more hW.size _ _ (Rd.below hr2 hW)))
    clear hu1 hu2 hr1 hr2
    go_wp2_with fail
    refine HP1.out.mono ?_
    rintro y w10 ⟨p1,rfl,hp1,hb10⟩
    obtain ⟨n0,n1,n2,n3,n4,n5,n6,n7,n8,n9,n10,rfl,-⟩:=RdTS.eleven hp1
    unfold termOf
    go_wp2_with fail
    refine (HP2.out w10 hb10).mono ?_
    rintro y w11 ⟨p2,rfl,hp2,hb11⟩
    have HM:=Hd (HSM.out _ _ w11 (RdT.more hb11.size _ _ (RdT.below (RdTS.more (fun b h=>h.2) _ _ hp1) hb11)) (RdTS.more (fun b h=>h.2) _ _ hp2))
    obtain ⟨m0,m1,m2,m3,m4,m5,m6,m7,m8,m9,m10,rfl,-⟩:=RdTS.eleven hp2
    unfold termOf at HM ⊢
    go_wp2_with fail
    refine HM.out.mono ?_
    rintro y w12 ⟨rfl,hb12⟩
    have hfin:Below w.heap.size w w12:=HKB.out _ (hS9.trans ((below_then (below_then hb10 (Nat.le_refl _) hb11) (Nat.le_refl _) hb12).mono hS9.size))
    go_wp2
    go_ret
    exact ⟨rfl,hfin⟩
   ·have HEV:=Hd (tell_any fieldA [.string ⟨#[102,105,101,108,100]⟩,.int .i64 0,.slice none 0 0,.string ⟨#[97]⟩,.int .i64 0,.bool false,.int .i64 0,.float .f64 0,.string ⟨#[]⟩,.slice none 0 0,.int .u64 0,.slice none 0 0,.slice none 0 0,.string ⟨#[]⟩,.int .i64 0] dictAB (.iface 46 (.slice (some ⟨w3.heap.size,0,none⟩) 2 2)) (fun b=>b<(w3.alloc (.cells #[.string ⟨#[97]⟩,.iface 9 (.string ⟨#[120]⟩),.string ⟨#[98]⟩,.nilIface] 44)).heap.size) (w3.alloc (.cells #[.string ⟨#[97]⟩,.iface 9 (.string ⟨#[120]⟩),.string ⟨#[98]⟩,.nilIface] 44)) (fun b h=>h)
     ⟨none,0,_,rfl,by decide,⟨by decide,by decide⟩,by decide,zeroTm_rd _ _,by decide,.inl rfl⟩
     ⟨some ⟨w3.heap.size,0,none⟩,2,rfl,by decide,.inr ⟨w3.heap.size,0,rfl,by simp,by
      refine ⟨⟨by simp[go_sem],by decide,_,by simp[go_sem];rfl,?_⟩,⟨by simp[go_sem],by decide,_,by simp[go_sem];rfl,?_⟩,trivial⟩
      ·exact ⟨rfl,by decide⟩
      ·rfl⟩⟩
     (HWw.out.below (fun b h=>h) bnew |>.more (fun b h=>by simp;omega)) (HWw2.out.below (fun b h=>h) bnew |>.more (fun b h=>by simp;omega)))
    rw[evalR_fieldA]at HEV
    have HBF:Hid (Below w3.heap.size w3 (w3.alloc (.cells #[.string ⟨#[97]⟩,.iface 9 (.string ⟨#[120]⟩),.string ⟨#[98]⟩,.nilIface] 44))):=Hd bnew
    have kq:∀W:World,(binOp .eql 20 (.iface 9 (.string ⟨#[120]⟩)) (.iface 9 (.string ⟨#[120]⟩))).run Tryz.prog W=.ok (.bool true) W:=fun W=>by kernel_rfl
    unfold termOf at HEV
    generalize hya:(checkV (builtV (dictT a))).2=ya at *
    generalize hyb:(checkV (builtV (dictT F))).2=yb at *
    clear hya hyb HAS HF HLE3 HLX3 HLY3 HRE3 HTX3 HTY3 HWw HWw2
    cases only
    ·go_wp2_with fail
     refine HEV.out.mono ?_
     rintro y w4 ⟨xv,rfl,hb4,hxv⟩
     obtain ⟨rfl,-⟩:=hxv
     have hfin:Below w.heap.size w w4:=HKB.out _ (HBF.out.trans (hb4.mono HBF.out.size))
     go_wp2
     go_ret
     exact ⟨rfl,hfin⟩
    ·by_cases ga:ya=0
     ·by_cases gb:yb=0
      ·exact absurd ⟨rfl,ga,gb⟩ hgood
      ·have gbn:((yb:Int)!=0)=true:=by rw[bne_iff_ne];omega
       subst ga
       clear gb hgood
       go_wp2_with fail
       refine HEV.out.mono ?_
       rintro y w4 ⟨xv,rfl,hb4,hxv⟩
       obtain ⟨rfl,-⟩:=hxv
       have hfin:Below w.heap.size w w4:=HKB.out _ (HBF.out.trans (hb4.mono HBF.out.size))
       go_wp2
       go_ret
       exact ⟨rfl,hfin⟩
     ·have gan:((ya:Int)!=0)=true:=by rw[bne_iff_ne];omega
      clear ga hgood
      go_wp2_with fail
      refine HEV.out.mono ?_
      rintro y w4 ⟨xv,rfl,hb4,hxv⟩
      obtain ⟨rfl,-⟩:=hxv
      have hfin:Below w.heap.size w w4:=HKB.out _ (HBF.out.trans (hb4.mono HBF.out.size))
      go_wp2
      go_ret
      exact ⟨rfl,hfin⟩
end Go.Proofs.YtbemeapjeipjlaaGreatDoor
