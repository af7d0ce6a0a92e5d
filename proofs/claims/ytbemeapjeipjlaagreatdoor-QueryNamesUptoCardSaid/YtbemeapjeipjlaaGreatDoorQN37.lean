/- Walks: the term of any value (mk.Plain): entries, dicts. -/
import Derived.Test.YtbemeapjeipjlaaGreatDoorQN36
set_option linter.unusedVariables false
set_option linter.unusedSimpArgs false
namespace Go.Proofs.YtbemeapjeipjlaaGreatDoor
open Go Go.RowKit
set_option maxRecDepth 100000
set_option maxHeartbeats 8000000
attribute [local go_sem] ta_no_bool ta_yes_bool ta_nil_bool ta_no_int64 ta_yes_int64 ta_nil_int64 ta_no_flt ta_yes_flt ta_nil_flt ta_no_str ta_yes_str ta_nil_str ta_no_byt ta_yes_byt ta_nil_byt ta_no_ref ta_yes_ref ta_nil_ref ta_no_lst ta_yes_lst ta_nil_lst ta_no_dct ta_yes_dct ta_nil_dct ta_no_rec ta_yes_rec ta_nil_rec
theorem entries_any (l:List (ByteArray×V)) (ih:∀p∈l,PlainC p.2) (A:Option Addr) (c d:Nat) (w:World) (hd:d≤400) (hl:l.length≤137438953472) (hr:l=[]∨∃b off,A=some ⟨b,off,none⟩∧b<w.heap.size∧RdD w (fun b=>b<w.heap.size) b off l):Calls Tryz.prog 48 #[.slice A l.length c,.int .i64 d] w (EntsPost (plainD l (d+1)) w):=by
 obtain ⟨i0,hi0,hz0,hz1,hz2⟩:=info_parts Tryz.infoEntry2
 have hwd:IntKind.i64.wrap ((d:Int)+1)=(d:Int)+1:=by rw[IntKind.wrap_i64];omega
 have HA:Hid (Below w.heap.size w (w.alloc (.cells #[] 37))):=Hd bnew
 have hsz:(w.alloc (.cells #[] 37)).heap.size=w.heap.size+1:=by simp
 go_enter Tryz.func48,Tryz.ntmps48
 go_wp2
 go_loopw [5,6] (fun y jx wr=>∃(k:Nat),jx=.int .i64 k∧k≤l.length∧Below w.heap.size w wr∧OwnR bearsE 37 (fun b=>w.heap.size≤b) wr w.heap.size y (plainD (l.take k) (d+1))) (fun _ jx _=>l.length-(intOf jx).toNat)
 case atStart =>
  refine ⟨0,rfl,by omega,HA.out,?_⟩
  have:=OwnR.empty (R:=bearsE) (e:=37) (fun b=>w.heap.size≤b) w w.heap.size (Nat.le_refl _)
  simpa [plainD] using this
 case round =>
  obtain ⟨k,rfl,hk,hb,hO⟩:=hrel
  have hz:w.heap.size≤wr.heap.size:=hb.size
  by_cases hlt:k<l.length
  ·obtain ⟨bk,off,rfl,hbB,hrd⟩:=hr.resolve_left (fun h=>by rw[h]at hlt;simp at hlt)
   obtain ⟨p,hp⟩:∃p,l[k]?=some p:=⟨_,List.getElem?_eq_getElem hlt⟩
   obtain ⟨hn,hns,v,hv,hvd⟩:=RdD.iff.1 hrd k p hp
   have hbk:bk<wr.heap.size:=by omega
   have hn':=(hb.cell (p:=⟨bk,off+k*2,none⟩) hbB).trans hn
   have hv':=(hb.cell (p:=⟨bk,off+k*2+1,none⟩) hbB).trans hv
   have hvS:Rd wr w.heap.size p.2 v:=Rd.below hvd hb
   have HP:=Hd (fun (W:World) (hW:Below w.heap.size wr W) (hz9:w.heap.size≤W.heap.size)=>ih p (List.mem_of_getElem? hp) v (d+1) W (Rd.more hz9 _ _ (Rd.below hvS hW)) (by omega))
   rw[show ((d+1:Nat):Int)=(d:Int)+1 from rfl]at HP
   have hxl:(plainD (l.take k) (d+1)).length=k:=by rw[plainD_eq];simp;omega
   have HT:Hid (plainD (l.take (k+1)) (d+1)=plainD (l.take k) (d+1)++[(p.1,plainT p.2 (d+1))]):=Hd (by rw[plainD_eq,plainD_eq,List.take_add_one,hp];simp)
   obtain ⟨A1,c1,rfl⟩:=hO.form
   rw[hxl]
   clear hv hn hvd hrd hp hvS hr
   go_wp2_with fail
   refine wp_region_heldI (fun W=>Below w.heap.size wr W) [0,1,2,3,4,5,6,7,8,9,10,11,12] [13,14,15,16,17] (by kernel_rfl) (by kernel_rfl) (fun _ _ _ _ _ h=>h) ?_ ?_
   ·((exact (Below.refl _ _).drew))
   simp only[pickI,List.getElem?_cons_succ,List.getElem?_cons_zero]
   repeat (refine HdS.step (fun K hK=>?_);go_simp;first|(refine hK _ ?_;clear hK K)|(apply Exists.intro;refine ⟨fun W hW=>?_,hK _ ?_⟩;(first|(intros;rfl)|((have en:=(hW.cell (p:=⟨bk,off+k*2,none⟩) hbB).trans hn';have ev:=(hW.cell (p:=⟨bk,off+k*2+1,none⟩) hbB).trans hv';go_simp;rfl)));clear hK K))
   refine HdS.nil ?_
   refine SeqS.step (fun K hK=>?_)
   go_simp
   go_at_call 31
   refine (HP.out _ (Below.refl w.heap.size wr).drew (by show w.heap.size≤wr.heap.size;omega)).mono ?_
   rintro e w1 ⟨u,rfl,hu,hbw⟩
   have hbw':Below wr.heap.size wr w1:=(Below.refl wr.heap.size wr).drew.trans hbw
   have hS1:Below w.heap.size wr w1:=hbw'.mono hz
   refine hK _ _ hS1 ?_
   clear hK K
   have hz1:wr.heap.size≤w1.heap.size:=hbw'.size
   obtain ⟨u0,u1,u2,u3,u4,u5,u6,u7,u8,u9,u10,rfl,h1c⟩:=hu.eleven
   unfold termOf
   refine SeqS.step (fun K hK=>?_)
   go_simp
   refine hK _ _ hS1 ?_
   clear hK K
   have hba:Below w1.heap.size w1 (w1.alloc (.cells #[.string p.1,u0,u1,u2,u3,u4,u5,u6,u7,u8,u9,u10] 37)):=bnew
   have hS2:Below w.heap.size wr (w1.alloc (.cells #[.string p.1,u0,u1,u2,u3,u4,u5,u6,u7,u8,u9,u10] 37)):=hS1.trans (hba.mono (by omega))
   refine SeqS.step (fun K hK=>?_)
   go_simp
   refine hK _ _ hS2 ?_
   clear hK K
   have hO2:=(hO.below hbw').below hba
   obtain ⟨xs0,hown0,_⟩:=hO
   rw[hxl]at hown0
   have hE:RdTE w1 (New wr w1) (p.1,plainT p.2 (d+1)) [.string p.1,u0,u1,u2,u3,u4,u5,u6,u7,u8,u9,u10]:=⟨_,rfl,hns,hu⟩
   have hu2:=fresh_of_newR (R:=bearsE) (F:=fun b=>w.heap.size≤b) (S:=fun _=>False) (bearsE.more (fun b hb9=>.inr (show New wr w1 b from hb9)) _ _ hE) hba hz1 (fun b h=>Nat.le_trans hz h) (fun b h=>h.elim) hown0
   obtain ⟨xs,hown,hx⟩:=hO2
   rw[hxl]at hown
   rw[hxl]at hx
   have hz3:w.heap.size≤(w1.alloc (.cells #[.string p.1,u0,u1,u2,u3,u4,u5,u6,u7,u8,u9,u10] 37)).heap.size:=by simp;omega
   refine SeqS.plain rfl (fun K hK=>?_)
   refine wp_append_lies _ (.tmp 14) (.tmp 29) 28 rfl w.heap.size 37 i0 _ 12 168 Tryz.underlying28 hi0 hz0 (by assumption) hz2 rfl (by omega) (.slice A1 k c1) k xs rfl hown ⟨w1.heap.size,0,none⟩ 1 1 [.string p.1,u0,u1,u2,u3,u4,u5,u6,u7,u8,u9,u10] rfl rfl (news_at rfl) (fun x hx9=>(List.mem_cons.1 hx9).elim (fun h9=>h9▸rfl) (fun h9=>h1c x h9)) (by omega) (by simp only[maxLen];omega) (by omega) hz3 _ rfl ?_
   intro g cap w2 hown2 hg2 hat hlt2
   have hO3:=OwnR.snoc (R:=bearsE) hxl hown hx hu2 hown2 hg2 hat
   have hS3:Below w.heap.size wr w2:=hS2.grown hg2 hz3 (fun j hj=>(hown.lt j hj).1)
   refine hK _ _ hS3 ?_
   clear hK K
   refine SeqS.step (fun K hK=>?_)
   go_simp
   refine hK _ _ hS3 ?_
   clear hK K
   refine SeqS.nil ?_
   go_wp2
   refine ⟨⟨k+1,rfl,hlt,hb.trans hS3,by rw[HT.out];exact hO3⟩,?_⟩
   simp[intOf]
   omega
  ·obtain rfl:k=l.length:=by omega
   rw[List.take_length]at hO
   obtain ⟨A2,c2,rfl,hR⟩:=hO.read
   clear hr ih
   go_wp2
   go_ret
   exact ⟨A2,c2,rfl,hR.more (fun b hb9=>⟨by have:=hb9.1;omega,hb9.2⟩),hb⟩
theorem plain_dict (l:List (ByteArray×V)) (ih:∀p∈l,PlainC p.2) (A:Option Addr) (c d:Nat) (w:World) (hd:d≤400) (hl:l.length≤137438953472) (hr:l=[]∨∃b off,A=some ⟨b,off,none⟩∧b<w.heap.size∧RdD w (fun b=>b<w.heap.size) b off l):Calls Tryz.prog 31 #[.iface 46 (.slice A l.length c),.int .i64 d] w (TermPost (plainT (.dict l) d) w):=by
 have hT:plainT (.dict l) d=.mk 9 false 0 0 ⟨#[]⟩ [] 0 [] (plainD l (d+1)) ⟨#[]⟩ 0:=by rw[plainT,if_neg (by omega)]
 rw[hT]
 have hq:decide ((400:Int)<(d:Int))=false:=by simp;omega
 have o0:=fun (W:World) (a:Addr) (m:Mode) (x:Nat)=>run_store Tryz.prog W a (.float .f64 x) m rfl
 have HA:Hid (Below w.heap.size w (w.alloc (.cells #[.int .i64 0,.bool false,.int .i64 0,.float .f64 0,.string ⟨#[]⟩,.slice none 0 0,.int .u64 0,.slice none 0 0,.slice none 0 0,.string ⟨#[]⟩,.int .i64 0] 30))):=Hd bnew
 have hsz:(w.alloc (.cells #[.int .i64 0,.bool false,.int .i64 0,.float .f64 0,.string ⟨#[]⟩,.slice none 0 0,.int .u64 0,.slice none 0 0,.slice none 0 0,.string ⟨#[]⟩,.int .i64 0] 30)).heap.size=w.heap.size+1:=by simp
 have hpl:(plainD l (d+1)).length≤137438953472:=by rw[plainD_eq];simpa using hl
 have HE:=Hd (entries_any l ih A c d (w.alloc (.cells #[.int .i64 0,.bool false,.int .i64 0,.float .f64 0,.string ⟨#[]⟩,.slice none 0 0,.int .u64 0,.slice none 0 0,.slice none 0 0,.string ⟨#[]⟩,.int .i64 0] 30)) hd hl (hr.imp id (fun ⟨b,off,h1,h2,h3⟩=>⟨b,off,h1,by rw[hsz];omega,RdD.iff.2 (fun i x hx=>by
  obtain ⟨a1,a2,v,a3,a4⟩:=RdD.iff.1 h3 i x hx
  exact ⟨(HA.out.cell (show b<_ from h2)).trans a1,a2,v,(HA.out.cell (show b<_ from h2)).trans a3,Rd.more (by rw[hsz];omega) _ _ (Rd.below a4 HA.out)⟩)⟩)))
 clear hT hr
 go_enter Tryz.func31,Tryz.ntmps31
 go_wp2_with fail
 refine HE.out.mono ?_
 rintro e w1 ⟨A2,c2,rfl,hR,hb1⟩
 rw[hsz]at hb1
 have hsz2:w.heap.size+1≤w1.heap.size:=by have:=hb1.size;rw[hsz]at this;exact this
 have cc0:w1.cell? ⟨w.heap.size,0,none⟩=some (.int .i64 0):=(hb1.cell (p:=⟨w.heap.size,0,none⟩) (show w.heap.size<w.heap.size+1 by omega)).trans (by simp[go_sem])
 have ff0:w1.frozen? ⟨w.heap.size,0,none⟩=false:=(hb1.frozen (p:=⟨w.heap.size,0,none⟩) (show w.heap.size<w.heap.size+1 by omega)).trans (by simp[go_sem])
 have cc1:w1.cell? ⟨w.heap.size,1,none⟩=some (.bool false):=(hb1.cell (p:=⟨w.heap.size,1,none⟩) (show w.heap.size<w.heap.size+1 by omega)).trans (by simp[go_sem])
 have ff1:w1.frozen? ⟨w.heap.size,1,none⟩=false:=(hb1.frozen (p:=⟨w.heap.size,1,none⟩) (show w.heap.size<w.heap.size+1 by omega)).trans (by simp[go_sem])
 have cc2:w1.cell? ⟨w.heap.size,2,none⟩=some (.int .i64 0):=(hb1.cell (p:=⟨w.heap.size,2,none⟩) (show w.heap.size<w.heap.size+1 by omega)).trans (by simp[go_sem])
 have ff2:w1.frozen? ⟨w.heap.size,2,none⟩=false:=(hb1.frozen (p:=⟨w.heap.size,2,none⟩) (show w.heap.size<w.heap.size+1 by omega)).trans (by simp[go_sem])
 have cc3:w1.cell? ⟨w.heap.size,3,none⟩=some (.float .f64 0):=(hb1.cell (p:=⟨w.heap.size,3,none⟩) (show w.heap.size<w.heap.size+1 by omega)).trans (by simp[go_sem])
 have ff3:w1.frozen? ⟨w.heap.size,3,none⟩=false:=(hb1.frozen (p:=⟨w.heap.size,3,none⟩) (show w.heap.size<w.heap.size+1 by omega)).trans (by simp[go_sem])
 have cc4:w1.cell? ⟨w.heap.size,4,none⟩=some (.string ⟨#[]⟩):=(hb1.cell (p:=⟨w.heap.size,4,none⟩) (show w.heap.size<w.heap.size+1 by omega)).trans (by simp[go_sem])
 have ff4:w1.frozen? ⟨w.heap.size,4,none⟩=false:=(hb1.frozen (p:=⟨w.heap.size,4,none⟩) (show w.heap.size<w.heap.size+1 by omega)).trans (by simp[go_sem])
 have cc5:w1.cell? ⟨w.heap.size,5,none⟩=some (.slice none 0 0):=(hb1.cell (p:=⟨w.heap.size,5,none⟩) (show w.heap.size<w.heap.size+1 by omega)).trans (by simp[go_sem])
 have ff5:w1.frozen? ⟨w.heap.size,5,none⟩=false:=(hb1.frozen (p:=⟨w.heap.size,5,none⟩) (show w.heap.size<w.heap.size+1 by omega)).trans (by simp[go_sem])
 have cc6:w1.cell? ⟨w.heap.size,6,none⟩=some (.int .u64 0):=(hb1.cell (p:=⟨w.heap.size,6,none⟩) (show w.heap.size<w.heap.size+1 by omega)).trans (by simp[go_sem])
 have ff6:w1.frozen? ⟨w.heap.size,6,none⟩=false:=(hb1.frozen (p:=⟨w.heap.size,6,none⟩) (show w.heap.size<w.heap.size+1 by omega)).trans (by simp[go_sem])
 have cc7:w1.cell? ⟨w.heap.size,7,none⟩=some (.slice none 0 0):=(hb1.cell (p:=⟨w.heap.size,7,none⟩) (show w.heap.size<w.heap.size+1 by omega)).trans (by simp[go_sem])
 have ff7:w1.frozen? ⟨w.heap.size,7,none⟩=false:=(hb1.frozen (p:=⟨w.heap.size,7,none⟩) (show w.heap.size<w.heap.size+1 by omega)).trans (by simp[go_sem])
 have cc8:w1.cell? ⟨w.heap.size,8,none⟩=some (.slice none 0 0):=(hb1.cell (p:=⟨w.heap.size,8,none⟩) (show w.heap.size<w.heap.size+1 by omega)).trans (by simp[go_sem])
 have ff8:w1.frozen? ⟨w.heap.size,8,none⟩=false:=(hb1.frozen (p:=⟨w.heap.size,8,none⟩) (show w.heap.size<w.heap.size+1 by omega)).trans (by simp[go_sem])
 have cc9:w1.cell? ⟨w.heap.size,9,none⟩=some (.string ⟨#[]⟩):=(hb1.cell (p:=⟨w.heap.size,9,none⟩) (show w.heap.size<w.heap.size+1 by omega)).trans (by simp[go_sem])
 have ff9:w1.frozen? ⟨w.heap.size,9,none⟩=false:=(hb1.frozen (p:=⟨w.heap.size,9,none⟩) (show w.heap.size<w.heap.size+1 by omega)).trans (by simp[go_sem])
 have cc10:w1.cell? ⟨w.heap.size,10,none⟩=some (.int .i64 0):=(hb1.cell (p:=⟨w.heap.size,10,none⟩) (show w.heap.size<w.heap.size+1 by omega)).trans (by simp[go_sem])
 have ff10:w1.frozen? ⟨w.heap.size,10,none⟩=false:=(hb1.frozen (p:=⟨w.heap.size,10,none⟩) (show w.heap.size<w.heap.size+1 by omega)).trans (by simp[go_sem])
 go_wp2
 (try simp only[Exit.inBlock,Exit.then]);refine bodyPost_ret (v:=.agg #[.int .i64 9,.bool false,.int .i64 0,.float .f64 0,.string ⟨#[]⟩,.slice none 0 0,.int .u64 0,.slice none 0 0,.slice A2 (plainD l (d+1)).length c2,.string ⟨#[]⟩,.int .i64 0]) (by simp[results,Tryz.results31,go_sem,cc0,cc1,cc2,cc3,cc4,cc5,cc6,cc7,cc8,cc9,cc10]) rfl ?_
 have hsz8:(((((((((((w1.setCell ⟨w.heap.size,0,none⟩ (.int .i64 9)).setCell ⟨w.heap.size,1,none⟩ (.bool false)).setCell ⟨w.heap.size,2,none⟩ (.int .i64 0)).setCell ⟨w.heap.size,3,none⟩ (.float .f64 0)).setCell ⟨w.heap.size,4,none⟩ (.string ⟨#[]⟩)).setCell ⟨w.heap.size,5,none⟩ (.slice none 0 0)).setCell ⟨w.heap.size,6,none⟩ (.int .u64 0)).setCell ⟨w.heap.size,7,none⟩ (.slice none 0 0)).setCell ⟨w.heap.size,8,none⟩ (.slice A2 (plainD l (d+1)).length c2)).setCell ⟨w.heap.size,9,none⟩ (.string ⟨#[]⟩)).setCell ⟨w.heap.size,10,none⟩ (.int .i64 0)).heap.size=w1.heap.size:=by simp
 have hkeep:∀p:Addr,p.block≠w.heap.size→(((((((((((w1.setCell ⟨w.heap.size,0,none⟩ (.int .i64 9)).setCell ⟨w.heap.size,1,none⟩ (.bool false)).setCell ⟨w.heap.size,2,none⟩ (.int .i64 0)).setCell ⟨w.heap.size,3,none⟩ (.float .f64 0)).setCell ⟨w.heap.size,4,none⟩ (.string ⟨#[]⟩)).setCell ⟨w.heap.size,5,none⟩ (.slice none 0 0)).setCell ⟨w.heap.size,6,none⟩ (.int .u64 0)).setCell ⟨w.heap.size,7,none⟩ (.slice none 0 0)).setCell ⟨w.heap.size,8,none⟩ (.slice A2 (plainD l (d+1)).length c2)).setCell ⟨w.heap.size,9,none⟩ (.string ⟨#[]⟩)).setCell ⟨w.heap.size,10,none⟩ (.int .i64 0)).cell? p=w1.cell? p:=by
  intro p h1
  have g1:∀o,(⟨w.heap.size,o,none⟩:Addr)≠p:=fun o h=>h1 (by rw[←h])
  rw[World.cell?_setCell_other _ _ _ _ (g1 _),World.cell?_setCell_other _ _ _ _ (g1 _),World.cell?_setCell_other _ _ _ _ (g1 _),World.cell?_setCell_other _ _ _ _ (g1 _),World.cell?_setCell_other _ _ _ _ (g1 _),World.cell?_setCell_other _ _ _ _ (g1 _),World.cell?_setCell_other _ _ _ _ (g1 _),World.cell?_setCell_other _ _ _ _ (g1 _),World.cell?_setCell_other _ _ _ _ (g1 _),World.cell?_setCell_other _ _ _ _ (g1 _),World.cell?_setCell_other _ _ _ _ (g1 _)]
 have hbw:Below w.heap.size w w1:=HA.out.trans (hb1.mono (by omega))
 refine ⟨[.int .i64 9,.bool false,.int .i64 0,.float .f64 0,.string ⟨#[]⟩,.slice none 0 0,.int .u64 0,.slice none 0 0,.slice A2 (plainD l (d+1)).length c2,.string ⟨#[]⟩,.int .i64 0],rfl,⟨none,0,none,0,A2,c2,rfl,⟨by decide,by decide⟩,⟨by decide,by decide⟩,by decide,by decide,⟨fun _=>rfl,.inl rfl⟩,by decide,by decide,by decide,⟨by decide,by decide⟩,⟨by decide,.inl rfl⟩,⟨by omega,?_⟩⟩,?_⟩
 ·exact rowsE_iff.1 (RowsAt.more (RowsAt.keep hR (fun p hp=>hkeep p (by have:=hp.1;rw[hsz]at this;omega))) (fun b hb9=>⟨by have:=hb9.1;rw[hsz]at this;omega,by rw[hsz8];exact hb9.2⟩))
 ·exact (((((((((((hbw.setCell (p:=⟨w.heap.size,0,none⟩) (Nat.le_refl _) (.int .i64 9)).setCell (p:=⟨w.heap.size,1,none⟩) (Nat.le_refl _) (.bool false)).setCell (p:=⟨w.heap.size,2,none⟩) (Nat.le_refl _) (.int .i64 0)).setCell (p:=⟨w.heap.size,3,none⟩) (Nat.le_refl _) (.float .f64 0)).setCell (p:=⟨w.heap.size,4,none⟩) (Nat.le_refl _) (.string ⟨#[]⟩)).setCell (p:=⟨w.heap.size,5,none⟩) (Nat.le_refl _) (.slice none 0 0)).setCell (p:=⟨w.heap.size,6,none⟩) (Nat.le_refl _) (.int .u64 0)).setCell (p:=⟨w.heap.size,7,none⟩) (Nat.le_refl _) (.slice none 0 0)).setCell (p:=⟨w.heap.size,8,none⟩) (Nat.le_refl _) (.slice A2 (plainD l (d+1)).length c2)).setCell (p:=⟨w.heap.size,9,none⟩) (Nat.le_refl _) (.string ⟨#[]⟩)).setCell (p:=⟨w.heap.size,10,none⟩) (Nat.le_refl _) (.int .i64 0))
theorem plain_record (cls:ByteArray) (ver:Int) (l:List (ByteArray×V)) (ih:∀p∈l,PlainC p.2) (b:Nat) (A:Option Addr) (c d:Nat) (w:World) (hd:d≤400) (hl:l.length≤137438953472) (hbB:b<w.heap.size) (hcs:cls.size≤140737488351232) (k0:w.cell? ⟨b,0,none⟩=some (.string cls)) (k1:w.cell? ⟨b,1,none⟩=some (.int .i64 ver)) (hv1:-9223372036854775808≤ver) (hv2:ver≤9223372036854775807) (k2:w.cell? ⟨b,2,none⟩=some (.slice A l.length c)) (hr:l=[]∨∃b off,A=some ⟨b,off,none⟩∧b<w.heap.size∧RdD w (fun b=>b<w.heap.size) b off l):Calls Tryz.prog 31 #[.iface 75 (.pointer (some ⟨b,0,none⟩)),.int .i64 d] w (TermPost (plainT (.record cls ver l) d) w):=by
 have hT:plainT (.record cls ver l) d=.mk 10 false 0 0 ⟨#[]⟩ [] 0 [] (plainD l (d+1)) cls ver:=by rw[plainT,if_neg (by omega)]
 rw[hT]
 have hq:decide ((400:Int)<(d:Int))=false:=by simp;omega
 have o0:=fun (W:World) (a:Addr) (m:Mode) (x:Nat)=>run_store Tryz.prog W a (.float .f64 x) m rfl
 have HA:Hid (Below w.heap.size w (w.alloc (.cells #[.int .i64 0,.bool false,.int .i64 0,.float .f64 0,.string ⟨#[]⟩,.slice none 0 0,.int .u64 0,.slice none 0 0,.slice none 0 0,.string ⟨#[]⟩,.int .i64 0] 30))):=Hd bnew
 have hsz:(w.alloc (.cells #[.int .i64 0,.bool false,.int .i64 0,.float .f64 0,.string ⟨#[]⟩,.slice none 0 0,.int .u64 0,.slice none 0 0,.slice none 0 0,.string ⟨#[]⟩,.int .i64 0] 30)).heap.size=w.heap.size+1:=by simp
 have hpl:(plainD l (d+1)).length≤137438953472:=by rw[plainD_eq];simpa using hl
 have HE:=Hd (fun (W:World) (hW:Below w.heap.size w W) (hz9:w.heap.size≤W.heap.size)=>entries_any l ih A c d W hd hl (hr.imp id (fun ⟨b,off,h1,h2,h3⟩=>⟨b,off,h1,by omega,RdD.iff.2 (fun i x hx=>by
  obtain ⟨a1,a2,v,a3,a4⟩:=RdD.iff.1 h3 i x hx
  exact ⟨(hW.cell (show b<_ from h2)).trans a1,a2,v,(hW.cell (show b<_ from h2)).trans a3,Rd.more hz9 _ _ (Rd.below a4 hW)⟩)⟩)))
 have k0':=(HA.out.cell (p:=⟨b,0,none⟩) hbB).trans k0
 have k1':=(HA.out.cell (p:=⟨b,1,none⟩) hbB).trans k1
 have k2':=(HA.out.cell (p:=⟨b,2,none⟩) hbB).trans k2
 have hb2:b<w.heap.size+1:=by omega
 clear hT hr k0 k1 k2
 go_enter Tryz.func31,Tryz.ntmps31
 go_wp2_with fail
 refine wp_region_heldL (fun W=>Below (w.heap.size+1) (w.alloc (.cells #[.int .i64 0,.bool false,.int .i64 0,.float .f64 0,.string ⟨#[]⟩,.slice none 0 0,.int .u64 0,.slice none 0 0,.slice none 0 0,.string ⟨#[]⟩,.int .i64 0] 30)) W) 15 [0,1,2,3,4,5,6,7,8,9,10,11,12] [13,14] (by kernel_rfl) (by rfl) (by rfl) (by kernel_rfl) (by kernel_rfl) (fun _ _ _ _ _ h=>h) ?_ ?_
 ·((exact (Below.refl _ _).drew))
 simp only[List.take_succ_cons,List.take_zero,pickI,List.getElem?_cons_succ,List.getElem?_cons_zero]
 repeat (refine HdS.step (fun K hK=>?_);go_simp;first|(refine hK _ ?_;clear hK K)|(apply Exists.intro;refine ⟨fun W hW=>?_,hK _ ?_⟩;(first|(intros;rfl)|((have e0:=(hW.cell (p:=⟨b,0,none⟩) hb2).trans k0';have e1:=(hW.cell (p:=⟨b,1,none⟩) hb2).trans k1';have e2:=(hW.cell (p:=⟨b,2,none⟩) hb2).trans k2';go_simp;rfl)));clear hK K))
 refine HdS.nil ?_
 refine SeqS.step (fun K hK=>?_)
 go_simp
 go_at_call 48
 refine (HE.out _ ((HA.out.trans ((Below.refl _ _).drew)):Below w.heap.size w _) (by show w.heap.size≤(World.heap (w.alloc (.cells #[.int .i64 0,.bool false,.int .i64 0,.float .f64 0,.string ⟨#[]⟩,.slice none 0 0,.int .u64 0,.slice none 0 0,.slice none 0 0,.string ⟨#[]⟩,.int .i64 0] 30))).size;rw[hsz];omega)).mono ?_
 rintro e w1 ⟨A2,c2,rfl,hR,hb0⟩
 have hb1:Below (w.heap.size+1) (w.alloc (.cells #[.int .i64 0,.bool false,.int .i64 0,.float .f64 0,.string ⟨#[]⟩,.slice none 0 0,.int .u64 0,.slice none 0 0,.slice none 0 0,.string ⟨#[]⟩,.int .i64 0] 30)) w1:=(Below.refl (w.heap.size+1) (w.alloc (.cells #[.int .i64 0,.bool false,.int .i64 0,.float .f64 0,.string ⟨#[]⟩,.slice none 0 0,.int .u64 0,.slice none 0 0,.slice none 0 0,.string ⟨#[]⟩,.int .i64 0] 30))).drew.trans (hb0.mono (by show w.heap.size+1≤(World.heap (w.alloc (.cells #[.int .i64 0,.bool false,.int .i64 0,.float .f64 0,.string ⟨#[]⟩,.slice none 0 0,.int .u64 0,.slice none 0 0,.slice none 0 0,.string ⟨#[]⟩,.int .i64 0] 30))).size;rw[hsz];omega))
 refine hK _ _ hb1 ?_
 clear hK K
 refine SeqS.step (fun K hK=>?_)
 go_simp
 refine hK _ _ hb1 ?_
 clear hK K
 refine SeqS.nil ?_
 have hsz2:w.heap.size+1≤w1.heap.size:=by have:=hb1.size;rw[hsz]at this;exact this
 have cc0:w1.cell? ⟨w.heap.size,0,none⟩=some (.int .i64 0):=(hb1.cell (p:=⟨w.heap.size,0,none⟩) (show w.heap.size<w.heap.size+1 by omega)).trans (by simp[go_sem])
 have ff0:w1.frozen? ⟨w.heap.size,0,none⟩=false:=(hb1.frozen (p:=⟨w.heap.size,0,none⟩) (show w.heap.size<w.heap.size+1 by omega)).trans (by simp[go_sem])
 have cc1:w1.cell? ⟨w.heap.size,1,none⟩=some (.bool false):=(hb1.cell (p:=⟨w.heap.size,1,none⟩) (show w.heap.size<w.heap.size+1 by omega)).trans (by simp[go_sem])
 have ff1:w1.frozen? ⟨w.heap.size,1,none⟩=false:=(hb1.frozen (p:=⟨w.heap.size,1,none⟩) (show w.heap.size<w.heap.size+1 by omega)).trans (by simp[go_sem])
 have cc2:w1.cell? ⟨w.heap.size,2,none⟩=some (.int .i64 0):=(hb1.cell (p:=⟨w.heap.size,2,none⟩) (show w.heap.size<w.heap.size+1 by omega)).trans (by simp[go_sem])
 have ff2:w1.frozen? ⟨w.heap.size,2,none⟩=false:=(hb1.frozen (p:=⟨w.heap.size,2,none⟩) (show w.heap.size<w.heap.size+1 by omega)).trans (by simp[go_sem])
 have cc3:w1.cell? ⟨w.heap.size,3,none⟩=some (.float .f64 0):=(hb1.cell (p:=⟨w.heap.size,3,none⟩) (show w.heap.size<w.heap.size+1 by omega)).trans (by simp[go_sem])
 have ff3:w1.frozen? ⟨w.heap.size,3,none⟩=false:=(hb1.frozen (p:=⟨w.heap.size,3,none⟩) (show w.heap.size<w.heap.size+1 by omega)).trans (by simp[go_sem])
 have cc4:w1.cell? ⟨w.heap.size,4,none⟩=some (.string ⟨#[]⟩):=(hb1.cell (p:=⟨w.heap.size,4,none⟩) (show w.heap.size<w.heap.size+1 by omega)).trans (by simp[go_sem])
 have ff4:w1.frozen? ⟨w.heap.size,4,none⟩=false:=(hb1.frozen (p:=⟨w.heap.size,4,none⟩) (show w.heap.size<w.heap.size+1 by omega)).trans (by simp[go_sem])
 have cc5:w1.cell? ⟨w.heap.size,5,none⟩=some (.slice none 0 0):=(hb1.cell (p:=⟨w.heap.size,5,none⟩) (show w.heap.size<w.heap.size+1 by omega)).trans (by simp[go_sem])
 have ff5:w1.frozen? ⟨w.heap.size,5,none⟩=false:=(hb1.frozen (p:=⟨w.heap.size,5,none⟩) (show w.heap.size<w.heap.size+1 by omega)).trans (by simp[go_sem])
 have cc6:w1.cell? ⟨w.heap.size,6,none⟩=some (.int .u64 0):=(hb1.cell (p:=⟨w.heap.size,6,none⟩) (show w.heap.size<w.heap.size+1 by omega)).trans (by simp[go_sem])
 have ff6:w1.frozen? ⟨w.heap.size,6,none⟩=false:=(hb1.frozen (p:=⟨w.heap.size,6,none⟩) (show w.heap.size<w.heap.size+1 by omega)).trans (by simp[go_sem])
 have cc7:w1.cell? ⟨w.heap.size,7,none⟩=some (.slice none 0 0):=(hb1.cell (p:=⟨w.heap.size,7,none⟩) (show w.heap.size<w.heap.size+1 by omega)).trans (by simp[go_sem])
 have ff7:w1.frozen? ⟨w.heap.size,7,none⟩=false:=(hb1.frozen (p:=⟨w.heap.size,7,none⟩) (show w.heap.size<w.heap.size+1 by omega)).trans (by simp[go_sem])
 have cc8:w1.cell? ⟨w.heap.size,8,none⟩=some (.slice none 0 0):=(hb1.cell (p:=⟨w.heap.size,8,none⟩) (show w.heap.size<w.heap.size+1 by omega)).trans (by simp[go_sem])
 have ff8:w1.frozen? ⟨w.heap.size,8,none⟩=false:=(hb1.frozen (p:=⟨w.heap.size,8,none⟩) (show w.heap.size<w.heap.size+1 by omega)).trans (by simp[go_sem])
 have cc9:w1.cell? ⟨w.heap.size,9,none⟩=some (.string ⟨#[]⟩):=(hb1.cell (p:=⟨w.heap.size,9,none⟩) (show w.heap.size<w.heap.size+1 by omega)).trans (by simp[go_sem])
 have ff9:w1.frozen? ⟨w.heap.size,9,none⟩=false:=(hb1.frozen (p:=⟨w.heap.size,9,none⟩) (show w.heap.size<w.heap.size+1 by omega)).trans (by simp[go_sem])
 have cc10:w1.cell? ⟨w.heap.size,10,none⟩=some (.int .i64 0):=(hb1.cell (p:=⟨w.heap.size,10,none⟩) (show w.heap.size<w.heap.size+1 by omega)).trans (by simp[go_sem])
 have ff10:w1.frozen? ⟨w.heap.size,10,none⟩=false:=(hb1.frozen (p:=⟨w.heap.size,10,none⟩) (show w.heap.size<w.heap.size+1 by omega)).trans (by simp[go_sem])
 unfold lastQ
 go_simp
 go_wp2
 (try simp only[Exit.inBlock,Exit.then]);refine bodyPost_ret (v:=.agg #[.int .i64 10,.bool false,.int .i64 0,.float .f64 0,.string ⟨#[]⟩,.slice none 0 0,.int .u64 0,.slice none 0 0,.slice A2 (plainD l (d+1)).length c2,.string cls,.int .i64 ver]) (by simp[results,Tryz.results31,go_sem,cc0,cc1,cc2,cc3,cc4,cc5,cc6,cc7,cc8,cc9,cc10]) rfl ?_
 have hsz8:(((((((((((w1.setCell ⟨w.heap.size,0,none⟩ (.int .i64 10)).setCell ⟨w.heap.size,1,none⟩ (.bool false)).setCell ⟨w.heap.size,2,none⟩ (.int .i64 0)).setCell ⟨w.heap.size,3,none⟩ (.float .f64 0)).setCell ⟨w.heap.size,4,none⟩ (.string ⟨#[]⟩)).setCell ⟨w.heap.size,5,none⟩ (.slice none 0 0)).setCell ⟨w.heap.size,6,none⟩ (.int .u64 0)).setCell ⟨w.heap.size,7,none⟩ (.slice none 0 0)).setCell ⟨w.heap.size,8,none⟩ (.slice A2 (plainD l (d+1)).length c2)).setCell ⟨w.heap.size,9,none⟩ (.string cls)).setCell ⟨w.heap.size,10,none⟩ (.int .i64 ver)).heap.size=w1.heap.size:=by simp
 have hkeep:∀p:Addr,p.block≠w.heap.size→(((((((((((w1.setCell ⟨w.heap.size,0,none⟩ (.int .i64 10)).setCell ⟨w.heap.size,1,none⟩ (.bool false)).setCell ⟨w.heap.size,2,none⟩ (.int .i64 0)).setCell ⟨w.heap.size,3,none⟩ (.float .f64 0)).setCell ⟨w.heap.size,4,none⟩ (.string ⟨#[]⟩)).setCell ⟨w.heap.size,5,none⟩ (.slice none 0 0)).setCell ⟨w.heap.size,6,none⟩ (.int .u64 0)).setCell ⟨w.heap.size,7,none⟩ (.slice none 0 0)).setCell ⟨w.heap.size,8,none⟩ (.slice A2 (plainD l (d+1)).length c2)).setCell ⟨w.heap.size,9,none⟩ (.string cls)).setCell ⟨w.heap.size,10,none⟩ (.int .i64 ver)).cell? p=w1.cell? p:=by
  intro p h1
  have g1:∀o,(⟨w.heap.size,o,none⟩:Addr)≠p:=fun o h=>h1 (by rw[←h])
  rw[World.cell?_setCell_other _ _ _ _ (g1 _),World.cell?_setCell_other _ _ _ _ (g1 _),World.cell?_setCell_other _ _ _ _ (g1 _),World.cell?_setCell_other _ _ _ _ (g1 _),World.cell?_setCell_other _ _ _ _ (g1 _),World.cell?_setCell_other _ _ _ _ (g1 _),World.cell?_setCell_other _ _ _ _ (g1 _),World.cell?_setCell_other _ _ _ _ (g1 _),World.cell?_setCell_other _ _ _ _ (g1 _),World.cell?_setCell_other _ _ _ _ (g1 _),World.cell?_setCell_other _ _ _ _ (g1 _)]
 have hbw:Below w.heap.size w w1:=HA.out.trans (hb1.mono (by omega))
 refine ⟨[.int .i64 10,.bool false,.int .i64 0,.float .f64 0,.string ⟨#[]⟩,.slice none 0 0,.int .u64 0,.slice none 0 0,.slice A2 (plainD l (d+1)).length c2,.string cls,.int .i64 ver],rfl,⟨none,0,none,0,A2,c2,rfl,⟨by decide,by decide⟩,⟨by decide,by decide⟩,by decide,by decide,⟨fun _=>rfl,.inl rfl⟩,by decide,by decide,hcs,⟨hv1,hv2⟩,⟨by decide,.inl rfl⟩,⟨by omega,?_⟩⟩,?_⟩
 ·exact rowsE_iff.1 (RowsAt.more (RowsAt.keep hR (fun p hp=>hkeep p (by have:=hp.1;have h7:(World.heap (w.alloc (.cells #[.int .i64 0,.bool false,.int .i64 0,.float .f64 0,.string ⟨#[]⟩,.slice none 0 0,.int .u64 0,.slice none 0 0,.slice none 0 0,.string ⟨#[]⟩,.int .i64 0] 30))).size=w.heap.size+1:=hsz;have h8:(World.drew (w.alloc (.cells #[.int .i64 0,.bool false,.int .i64 0,.float .f64 0,.string ⟨#[]⟩,.slice none 0 0,.int .u64 0,.slice none 0 0,.slice none 0 0,.string ⟨#[]⟩,.int .i64 0] 30))).heap.size=w.heap.size+1:=hsz;omega))) (fun b hb9=>⟨by have:=hb9.1;have h8:(World.drew (w.alloc (.cells #[.int .i64 0,.bool false,.int .i64 0,.float .f64 0,.string ⟨#[]⟩,.slice none 0 0,.int .u64 0,.slice none 0 0,.slice none 0 0,.string ⟨#[]⟩,.int .i64 0] 30))).heap.size=w.heap.size+1:=hsz;omega,by rw[hsz8];exact hb9.2⟩))
 ·exact (((((((((((hbw.setCell (p:=⟨w.heap.size,0,none⟩) (Nat.le_refl _) (.int .i64 10)).setCell (p:=⟨w.heap.size,1,none⟩) (Nat.le_refl _) (.bool false)).setCell (p:=⟨w.heap.size,2,none⟩) (Nat.le_refl _) (.int .i64 0)).setCell (p:=⟨w.heap.size,3,none⟩) (Nat.le_refl _) (.float .f64 0)).setCell (p:=⟨w.heap.size,4,none⟩) (Nat.le_refl _) (.string ⟨#[]⟩)).setCell (p:=⟨w.heap.size,5,none⟩) (Nat.le_refl _) (.slice none 0 0)).setCell (p:=⟨w.heap.size,6,none⟩) (Nat.le_refl _) (.int .u64 0)).setCell (p:=⟨w.heap.size,7,none⟩) (Nat.le_refl _) (.slice none 0 0)).setCell (p:=⟨w.heap.size,8,none⟩) (Nat.le_refl _) (.slice A2 (plainD l (d+1)).length c2)).setCell (p:=⟨w.heap.size,9,none⟩) (Nat.le_refl _) (.string cls)).setCell (p:=⟨w.heap.size,10,none⟩) (Nat.le_refl _) (.int .i64 ver))
mutual
def tinyV:V→Nat→Prop
 | .list l,d=>d≤64∧l.length≤4096∧tinyL l (d+1)
 | .dict l,d=>d≤64∧l.length≤4096∧tinyD l (d+1)
 | .record _ _ l,d=>d≤64∧l.length≤4096∧tinyD l (d+1)
 | .nothing,_=>False
 | .alien,_=>False
 | .nil,d=>d≤64
 | .bool _,d=>d≤64
 | .int _,d=>d≤64
 | .flt _,d=>d≤64
 | .text _,d=>d≤64
 | .bytes _,d=>d≤64
 | .ref _,d=>d≤64
def tinyL:List V→Nat→Prop
 | [],_=>True
 | x :: r,d=>tinyV x d∧tinyL r d
def tinyD:List (ByteArray×V)→Nat→Prop
 | [],_=>True
 | (_,x) :: r,d=>tinyV x d∧tinyD r d
end
theorem tinyL_iff {l:List V} {d:Nat}:tinyL l d↔∀x∈l,tinyV x d:=by
 induction l with
 | nil=>simp[tinyL]
 | cons x r ih=>simp[tinyL,ih]
theorem tinyD_iff {l:List (ByteArray×V)} {d:Nat}:tinyD l d↔∀p∈l,tinyV p.2 d:=by
 induction l with
 | nil=>simp[tinyD]
 | cons x r ih=>obtain ⟨n,x⟩:=x;simp[tinyD,ih]
theorem own_deep {x:V} {n d:Nat} (h:ownV x n d=0):d≤64:=by
 unfold ownV at h
 split at h
 ·cases x <;> cases h
 ·omega
theorem fields_le {l:List (ByteArray×V)} (h:fieldsV l=0):l.length≤4096:=by
 unfold fieldsV at h
 split at h
 ·cases h
 ·omega
theorem own_dict_le {l:List (ByteArray×V)} {n d:Nat} (h:ownV (.dict l) n d=0):l.length≤4096:=by
 unfold ownV at h
 split at h
 ·cases h
 ·exact fields_le h
theorem own_record_le {c:ByteArray} {v:Int} {l:List (ByteArray×V)} {n d:Nat} (h:ownV (.record c v l) n d=0):l.length≤4096:=by
 unfold ownV at h
 split at h
 ·cases h
 ·simp only at h;split at h
  ·cases h
  ·split at h
   ·cases h
   ·exact fields_le h
theorem own_rows_le {l:List V} {n d:Nat} (h:ownV (.list l) n d=0):l.length≤4096:=by
 unfold ownV at h
 split at h
 ·cases h
 ·simp only at h;split at h
  ·cases h
  ·omega
theorem partL_tiny (l:List V) (ih:∀x∈l,∀d s,(partV x d s).1=true→tinyV x d):∀d s,(partL l d s).1=true→tinyL l d:=by
 induction l with
 | nil=>intro d s _;exact trivial
 | cons x r ihr =>
  intro d s h
  obtain ⟨h1,h2⟩:=then_fine h
  exact ⟨ih x (by simp) _ _ h1,ihr (fun y hy=>ih y (by simp[hy])) _ _ h2⟩
theorem partD_tiny (l:List (ByteArray×V)) (ih:∀p∈l,∀d s,(partV p.2 d s).1=true→tinyV p.2 d):∀d s,(partD l d s).1=true→tinyD l d:=by
 induction l with
 | nil=>intro d s _;exact trivial
 | cons p r ihr =>
  obtain ⟨n,x⟩:=p
  intro d s h
  obtain ⟨h1,h2⟩:=then_fine h
  exact ⟨ih (n,x) (by simp) _ _ h1,ihr (fun y hy=>ih y (by simp[hy])) _ _ h2⟩
theorem part_tiny (x:V):∀d s,(partV x d s).1=true→tinyV x d:=by
 induction x using V.ind with
 | h0=>intro d s h;exact own_deep (step_fine h).1
 | h1=>intro d s h;exact own_deep (step_fine h).1
 | h2=>intro d s h;exact own_deep (step_fine h).1
 | h3=>intro d s h;exact own_deep (step_fine h).1
 | h4=>intro d s h;exact own_deep (step_fine h).1
 | h5=>intro d s h;exact own_deep (step_fine h).1
 | h6=>intro d s h;exact own_deep (step_fine h).1
 | h7 l ih=>intro d s h;exact ⟨own_deep (step_fine h).1,own_rows_le (step_fine h).1,partL_tiny l ih _ _ (step_fine h).2⟩
 | h8 l ih=>intro d s h;exact ⟨own_deep (step_fine h).1,own_dict_le (step_fine h).1,partD_tiny l ih _ _ (step_fine h).2⟩
 | h9 c v l ih=>intro d s h;exact ⟨own_deep (step_fine h).1,own_record_le (step_fine h).1,partD_tiny l ih _ _ (step_fine h).2⟩
 | h10=>intro d s h;exact absurd rfl (own_kind (step_fine h).1).1
 | h11=>intro d s h;exact absurd rfl (own_kind (step_fine h).1).2
theorem okV_tiny {x:V} (h:okV x):tinyV x 1:=part_tiny x _ _ h
theorem plain_all (x:V):∀k,tinyV x k→PlainC x:=by
 induction x using V.ind with
 | h0=>rintro k _ vv d w rfl _;by_cases hd:d≤400;exact plain_nil d hd w;exact plain_far _ _ d w (by omega)
 | h1 b=>rintro k _ vv d w rfl _;by_cases hd:d≤400;exact plain_bool b d hd w;exact plain_far _ _ d w (by omega)
 | h2 n=>rintro k _ vv d w ⟨rfl,h⟩ _;by_cases hd:d≤400;exact plain_int n d hd h w;exact plain_far _ _ d w (by omega)
 | h3 f=>rintro k _ vv d w rfl _;by_cases hd:d≤400;exact plain_flt f d hd w;exact plain_far _ _ d w (by omega)
 | h4 s=>rintro k _ vv d w ⟨rfl,h⟩ _;by_cases hd:d≤400;exact plain_text s d hd h w;exact plain_far _ _ d w (by omega)
 | h5 l=>rintro k _ vv d w ⟨A,c,rfl,h1,h2,h3⟩ _;by_cases hd:d≤400;exact plain_bytes A l c d w hd h1 h2 h3;exact plain_far _ _ d w (by omega)
 | h6 n=>rintro k _ vv d w ⟨rfl,h1,h2⟩ _;by_cases hd:d≤400;exact plain_ref n d hd h1 h2 w;exact plain_far _ _ d w (by omega)
 | h7 l ih=>rintro k ⟨_,hl,ht⟩ vv d w ⟨A,c,rfl,h1,h2,h3⟩ _;by_cases hd:d≤400;exact plain_list l (fun x hx=>ih x hx _ (tinyL_iff.1 ht x hx)) A c d w hd (by omega) h3;exact plain_far _ _ d w (by omega)
 | h8 l ih=>rintro k ⟨_,hl,ht⟩ vv d w ⟨A,c,rfl,h1,h3⟩ _;by_cases hd:d≤400;exact plain_dict l (fun x hx=>ih x hx _ (tinyD_iff.1 ht x hx)) A c d w hd (by omega) h3;exact plain_far _ _ d w (by omega)
 | h9 cls ver l ih=>rintro k ⟨_,hl,ht⟩ vv d w ⟨b,rfl,hb,hcs,k0,k1,hv1,hv2,A,c,k2,h1,h3⟩ _;by_cases hd:d≤400;exact plain_record cls ver l (fun x hx=>ih x hx _ (tinyD_iff.1 ht x hx)) b A c d w hd (by omega) hb hcs k0 k1 hv1 hv2 k2 h3;exact plain_far _ _ d w (by omega)
 | h10=>intro k h;exact h.elim
 | h11=>intro k h;exact h.elim
theorem Plain_ok (x:V) (h:tinyV x 1) (vv:Value) (w:World) (hr:Rd w w.heap.size x vv):Calls Tryz.prog 12 #[vv] w (TermPost (plainT x 0) w):=
 Plain_any x vv w (fun W hW=>plain_all x 1 h vv 0 W (Rd.more hW.size _ _ (Rd.below hr hW)) (by omega))
theorem sameTL_map (f:V→Tm) (l:List V) (h:∀x∈l,sameT (f x) (f x)=true):sameTL (l.map f) (l.map f)=true:=by
 induction l with
 | nil=>rfl
 | cons x r ih=>simp[sameTL,h x (by simp),ih (fun y hy=>h y (by simp[hy]))]
theorem sameTD_map (f:V→Tm) (l:List (ByteArray×V)) (h:∀p∈l,sameT (f p.2) (f p.2)=true):sameTD (l.map fun p=>(p.1,f p.2)) (l.map fun p=>(p.1,f p.2))=true:=by
 induction l with
 | nil=>rfl
 | cons x r ih=>obtain ⟨n,x⟩:=x;simp[sameTD,h (n,x) (by simp),ih (fun y hy=>h y (by simp[hy]))]
theorem same_self (x:V):∀k d,tinyV x k→d≤300+k→sameT (plainT x d) (plainT x d)=true:=by
 induction x using V.ind with
 | h10=>intro k d h;exact h.elim
 | h11=>intro k d h;exact h.elim
 | h7 l ih=>rintro k d ⟨hk,_,ht⟩ hd;rw[plainT,if_neg (by omega),plainL_eq];simp[sameT];exact sameTL_map _ _ (fun x hx=>ih x hx (k+1) (d+1) (tinyL_iff.1 ht x hx) (by omega))
 | h8 l ih=>rintro k d ⟨hk,_,ht⟩ hd;rw[plainT,if_neg (by omega),plainD_eq];simp[sameT];exact sameTD_map (plainT · (d+1)) _ (fun x hx=>ih x hx (k+1) (d+1) (tinyD_iff.1 ht x hx) (by omega))
 | h9 c v l ih=>rintro k d ⟨hk,_,ht⟩ hd;rw[plainT,if_neg (by omega),plainD_eq];simp[sameT];exact sameTD_map (plainT · (d+1)) _ (fun x hx=>ih x hx (k+1) (d+1) (tinyD_iff.1 ht x hx) (by omega))
 | _=>intro k d h hd;have h':k≤64:=h;rw[plainT,if_neg (by omega)];simp[sameT]
end Go.Proofs.YtbemeapjeipjlaaGreatDoor
