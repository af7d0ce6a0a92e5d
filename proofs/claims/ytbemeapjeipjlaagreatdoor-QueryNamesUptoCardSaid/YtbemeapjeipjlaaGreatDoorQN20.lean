/- Walks: query.takes, literal, name; slices.Contains. -/
import Derived.Test.YtbemeapjeipjlaaGreatDoorQN19
set_option linter.unusedVariables false
set_option linter.unusedSimpArgs false
namespace Go.Proofs.YtbemeapjeipjlaaGreatDoor
open Go Go.RowKit
set_option maxRecDepth 100000
set_option maxHeartbeats 8000000
attribute [local go_sem] ta_no_bool ta_yes_bool ta_nil_bool ta_no_int64 ta_yes_int64 ta_nil_int64 ta_no_flt ta_yes_flt ta_nil_flt ta_no_str ta_yes_str ta_nil_str ta_no_byt ta_yes_byt ta_nil_byt ta_no_ref ta_yes_ref ta_nil_ref ta_no_lst ta_yes_lst ta_nil_lst ta_no_dct ta_yes_dct ta_nil_dct ta_no_rec ta_yes_rec ta_nil_rec
open Classical in
noncomputable def takesV (op nm:ByteArray):Int:=
 if op=oList then 9 else if op=oCall then (fnO nm).getD (-1) else if op∈[oValue,oSelf,oField] then 0 else if op∈[oNot,oNeg,oIs,oDot] then 1 else if op∈levelled then 2 else -1
theorem takes_any (op:ByteArray) (a:Int) (p:Value) (nm:ByteArray) (y:List Value) (hy:Eleven y) (hp:p.oneCell'=true) (w:World):Calls Tryz.prog 83 #[eV op a p nm y] w (OrdPost (takesV op nm) w):=by
 by_cases hList:op=oList
 ·subst hList
  have HF:Hid (takesV oList nm=9):=Hd (by unfold takesV;rw[if_pos rfl])
  obtain ⟨n0,n1,n2,n3,n4,n5,n6,n7,n8,n9,n10,rfl,h1⟩:=hy
  clear h1
  unfold eV at *
  have HB:Hid (Below w.heap.size w (w.alloc (.cells #[.string oList,.int .i64 a,p,.string nm,n0,n1,n2,n3,n4,n5,n6,n7,n8,n9,n10] 32))):=Hd bnew
  go_enter Tryz.func83,Tryz.ntmps83
  go_wp2
  go_ret
  exact ⟨ret_num HF.out.symm,HB.out⟩
 by_cases hValue:op=oValue
 ·subst hValue
  have HF:Hid (takesV oValue nm=0):=Hd (by unfold takesV;rw[if_neg (by decide),if_neg (by decide),if_pos (by simp)])
  obtain ⟨n0,n1,n2,n3,n4,n5,n6,n7,n8,n9,n10,rfl,h1⟩:=hy
  clear h1
  unfold eV at *
  have HB:Hid (Below w.heap.size w (w.alloc (.cells #[.string oValue,.int .i64 a,p,.string nm,n0,n1,n2,n3,n4,n5,n6,n7,n8,n9,n10] 32))):=Hd bnew
  go_enter Tryz.func83,Tryz.ntmps83
  go_wp2
  go_ret
  exact ⟨ret_num HF.out.symm,HB.out⟩
 by_cases hSelf:op=oSelf
 ·subst hSelf
  have HF:Hid (takesV oSelf nm=0):=Hd (by unfold takesV;rw[if_neg (by decide),if_neg (by decide),if_pos (by simp)])
  obtain ⟨n0,n1,n2,n3,n4,n5,n6,n7,n8,n9,n10,rfl,h1⟩:=hy
  clear h1
  unfold eV at *
  have HB:Hid (Below w.heap.size w (w.alloc (.cells #[.string oSelf,.int .i64 a,p,.string nm,n0,n1,n2,n3,n4,n5,n6,n7,n8,n9,n10] 32))):=Hd bnew
  go_enter Tryz.func83,Tryz.ntmps83
  go_wp2
  go_ret
  exact ⟨ret_num HF.out.symm,HB.out⟩
 by_cases hField:op=oField
 ·subst hField
  have HF:Hid (takesV oField nm=0):=Hd (by unfold takesV;rw[if_neg (by decide),if_neg (by decide),if_pos (by simp)])
  obtain ⟨n0,n1,n2,n3,n4,n5,n6,n7,n8,n9,n10,rfl,h1⟩:=hy
  clear h1
  unfold eV at *
  have HB:Hid (Below w.heap.size w (w.alloc (.cells #[.string oField,.int .i64 a,p,.string nm,n0,n1,n2,n3,n4,n5,n6,n7,n8,n9,n10] 32))):=Hd bnew
  go_enter Tryz.func83,Tryz.ntmps83
  go_wp2
  go_ret
  exact ⟨ret_num HF.out.symm,HB.out⟩
 by_cases hNot:op=oNot
 ·subst hNot
  have HF:Hid (takesV oNot nm=1):=Hd (by unfold takesV;rw[if_neg (by decide),if_neg (by decide),if_neg (by simp),if_pos (by simp)])
  obtain ⟨n0,n1,n2,n3,n4,n5,n6,n7,n8,n9,n10,rfl,h1⟩:=hy
  clear h1
  unfold eV at *
  have HB:Hid (Below w.heap.size w (w.alloc (.cells #[.string oNot,.int .i64 a,p,.string nm,n0,n1,n2,n3,n4,n5,n6,n7,n8,n9,n10] 32))):=Hd bnew
  go_enter Tryz.func83,Tryz.ntmps83
  go_wp2
  go_ret
  exact ⟨ret_num HF.out.symm,HB.out⟩
 by_cases hNeg:op=oNeg
 ·subst hNeg
  have HF:Hid (takesV oNeg nm=1):=Hd (by unfold takesV;rw[if_neg (by decide),if_neg (by decide),if_neg (by simp),if_pos (by simp)])
  obtain ⟨n0,n1,n2,n3,n4,n5,n6,n7,n8,n9,n10,rfl,h1⟩:=hy
  clear h1
  unfold eV at *
  have HB:Hid (Below w.heap.size w (w.alloc (.cells #[.string oNeg,.int .i64 a,p,.string nm,n0,n1,n2,n3,n4,n5,n6,n7,n8,n9,n10] 32))):=Hd bnew
  go_enter Tryz.func83,Tryz.ntmps83
  go_wp2
  go_ret
  exact ⟨ret_num HF.out.symm,HB.out⟩
 by_cases hIs:op=oIs
 ·subst hIs
  have HF:Hid (takesV oIs nm=1):=Hd (by unfold takesV;rw[if_neg (by decide),if_neg (by decide),if_neg (by simp),if_pos (by simp)])
  obtain ⟨n0,n1,n2,n3,n4,n5,n6,n7,n8,n9,n10,rfl,h1⟩:=hy
  clear h1
  unfold eV at *
  have HB:Hid (Below w.heap.size w (w.alloc (.cells #[.string oIs,.int .i64 a,p,.string nm,n0,n1,n2,n3,n4,n5,n6,n7,n8,n9,n10] 32))):=Hd bnew
  go_enter Tryz.func83,Tryz.ntmps83
  go_wp2
  go_ret
  exact ⟨ret_num HF.out.symm,HB.out⟩
 by_cases hDot:op=oDot
 ·subst hDot
  have HF:Hid (takesV oDot nm=1):=Hd (by unfold takesV;rw[if_neg (by decide),if_neg (by decide),if_neg (by simp),if_pos (by simp)])
  obtain ⟨n0,n1,n2,n3,n4,n5,n6,n7,n8,n9,n10,rfl,h1⟩:=hy
  clear h1
  unfold eV at *
  have HB:Hid (Below w.heap.size w (w.alloc (.cells #[.string oDot,.int .i64 a,p,.string nm,n0,n1,n2,n3,n4,n5,n6,n7,n8,n9,n10] 32))):=Hd bnew
  go_enter Tryz.func83,Tryz.ntmps83
  go_wp2
  go_ret
  exact ⟨ret_num HF.out.symm,HB.out⟩
 by_cases hCall:op=oCall
 ·subst hCall
  have HFn:=Hd (fun (W:World)=>function_any nm W)
  have HF:Hid (takesV oCall nm=(fnO nm).getD (-1)):=Hd (by unfold takesV;rw[if_neg (by decide),if_pos rfl])
  obtain ⟨n0,n1,n2,n3,n4,n5,n6,n7,n8,n9,n10,rfl,h1⟩:=hy
  clear h1
  unfold eV at *
  have HB:Hid (Below w.heap.size w (w.alloc (.cells #[.string oCall,.int .i64 a,p,.string nm,n0,n1,n2,n3,n4,n5,n6,n7,n8,n9,n10] 32))):=Hd bnew
  cases hf:fnO nm with
  | none =>
   rw[hf]at HFn HF
   go_enter Tryz.func83,Tryz.ntmps83
   go_wp2_with fail
   refine (HFn.out _).mono ?_
   rintro e w1 ⟨rfl,rfl⟩
   go_wp2
   go_ret
   exact ⟨ret_num HF.out.symm,HB.out⟩
  | some k =>
   rw[hf]at HFn HF
   go_enter Tryz.func83,Tryz.ntmps83
   go_wp2_with fail
   refine (HFn.out _).mono ?_
   rintro e w1 ⟨rfl,rfl⟩
   go_wp2
   go_ret
   exact ⟨ret_num HF.out.symm,HB.out⟩
 have eList:=neS [108,105,115,116] hList
 have eCall:=neS [99,97,108,108] hCall
 have eValue:=neS [118,97,108,117,101] hValue
 have eSelf:=neS [115,101,108,102] hSelf
 have eField:=neS [102,105,101,108,100] hField
 have eNot:=neS [110,111,116] hNot
 have eNeg:=neS [110,101,103] hNeg
 have eIs:=neS [105,115] hIs
 have eDot:=neS [100,111,116] hDot
 have HLv:=Hd (fun (W:World)=>level_any op W)
 by_cases hlv:op∈levelled
 ·have HF:Hid (takesV op nm=2):=Hd (by unfold takesV;rw[if_neg hList,if_neg hCall,if_neg (by simp[hValue,hSelf,hField]),if_neg (by simp[hNot,hNeg,hIs,hDot]),if_pos hlv])
  clear hList hCall hValue hSelf hField hNot hNeg hIs hDot
  obtain ⟨n0,n1,n2,n3,n4,n5,n6,n7,n8,n9,n10,rfl,h1⟩:=hy
  clear h1
  unfold eV at *
  have HB:Hid (Below w.heap.size w (w.alloc (.cells #[.string op,.int .i64 a,p,.string nm,n0,n1,n2,n3,n4,n5,n6,n7,n8,n9,n10] 32))):=Hd bnew
  go_enter Tryz.func83,Tryz.ntmps83
  go_wp2_with fail
  refine (HLv.out _).mono ?_
  rintro e w1 ⟨k,rfl,hk9,rfl⟩
  have hk:k<9:=hk9.2 hlv
  clear hk9 hlv
  go_wp2
  go_ret
  exact ⟨ret_num HF.out.symm,HB.out⟩
 ·have HF:Hid (takesV op nm=-1):=Hd (by unfold takesV;rw[if_neg hList,if_neg hCall,if_neg (by simp[hValue,hSelf,hField]),if_neg (by simp[hNot,hNeg,hIs,hDot]),if_neg hlv])
  clear hList hCall hValue hSelf hField hNot hNeg hIs hDot
  obtain ⟨n0,n1,n2,n3,n4,n5,n6,n7,n8,n9,n10,rfl,h1⟩:=hy
  clear h1
  unfold eV at *
  have HB:Hid (Below w.heap.size w (w.alloc (.cells #[.string op,.int .i64 a,p,.string nm,n0,n1,n2,n3,n4,n5,n6,n7,n8,n9,n10] 32))):=Hd bnew
  go_enter Tryz.func83,Tryz.ntmps83
  go_wp2_with fail
  refine (HLv.out _).mono ?_
  rintro e w1 ⟨k,rfl,hk9,rfl⟩
  have hk:¬k<9:=fun h=>hlv (hk9.1 h)
  clear hk9 hlv
  go_wp2
  go_ret
  exact ⟨ret_num HF.out.symm,HB.out⟩
noncomputable def litV:V→Bool
 | .nil=>true
 | .bool _=>true
 | .text _=>true
 | .bytes _=>true
 | .ref _=>true
 | .int n=>decide (0≤n)
 | .flt x=>!signB x&&(!infB x&&!nanB x)
 | _=>false
noncomputable def literalB (t:Tm):Bool:=decide ((checkV (builtV t)).2=0)&&litV (builtV t)
theorem kind_is_nil {x:V} (h:kindV x=1):x=.nil:=by
 cases x <;> first|rfl|exact absurd h (by simp[kindV])
theorem held_iface {w:World} {S:Nat→Prop} {x:V} {v:Value} (h:RdS w S x v) (hk:kindV x≠1):∃ty z,v=.iface ty z:=by
 rcases h.face with rfl|⟨ty,z,rfl⟩
 ·cases x with
  | nil=>exact absurd rfl hk
  | bool b=>cases h
  | int b=>obtain ⟨h,_⟩:=h;cases h
  | flt b=>cases h
  | text b=>obtain ⟨h,_⟩:=h;cases h
  | bytes b=>obtain ⟨A,c,h,_⟩:=h;cases h
  | ref b=>obtain ⟨h,_⟩:=h;cases h
  | list b=>obtain ⟨A,c,h,_⟩:=h;cases h
  | dict b=>obtain ⟨A,c,h,_⟩:=h;cases h
  | record c v l=>obtain ⟨b,h,_⟩:=h;cases h
  | nothing=>cases h
  | alien=>obtain ⟨t,y,h,_⟩:=h;cases h
 ·exact ⟨ty,z,rfl⟩
theorem literal_any (t:Tm) (x:List Value) (w:World) (hx:RdT w w.heap.size t x):Calls Tryz.prog 84 #[termOf x] w (BoolPost (literalB t) w):=by
 have HOf:=Hd (fun (W:World) (hW:Below w.heap.size w W)=>of_any t x W (RdT.more hW.size _ _ (RdT.below hx hW)))
 obtain ⟨n0,n1,n2,n3,n4,n5,n6,n7,n8,n9,n10,rfl,h1c⟩:=hx.eleven
 clear h1c
 unfold OfPost at HOf
 unfold termOf at *
 have HB:Hid (Below w.heap.size w (w.alloc (.cells #[n0,n1,n2,n3,n4,n5,n6,n7,n8,n9,n10] 30))):=Hd bnew
 clear hx
 have HL:Hid (literalB t=(decide ((checkV (builtV t)).2=0)&&litV (builtV t))):=Hd rfl
 generalize builtV t=u at *
 by_cases hz:(checkV u).2=0
 case neg =>
  have HF:Hid (literalB t=false):=Hd (by rw[HL.out,decide_eq_false hz];rfl)
  generalize checkV u=ck at *
  have hq:((ck.2:Int)!=0)=true:=by rw[bne_iff_ne];omega
  go_enter Tryz.func84,Tryz.ntmps84
  go_wp2_with fail
  refine (HOf.out _ HB.out).mono ?_
  rintro e w1 ⟨uv,rfl,hb1,-,-⟩
  go_wp2
  go_ret
  exact ⟨ret_bool HF.out.symm,HB.out.trans (hb1.mono (by simp))⟩
 case pos =>
 replace HL:Hid (literalB t=litV u):=Hd (by rw[HL.out,decide_eq_true hz];rfl)
 rw[hz]at HOf
 replace HOf:=Hd (fun (W:World) (hW:Below w.heap.size w W)=>(HOf.out W hW).mono (fun e w' h=>(by obtain ⟨v,h1,h2,h3,_⟩:=h;exact ⟨v,h1,h2,h3 rfl⟩:∃v,e=.returned (.tuple #[v,.int .i64 ((0:Nat):Int)])∧Below W.heap.size W w'∧RdS w' (New W w') u v)))
 clear hz
 by_cases h1:kindV u=1
 ·obtain rfl:=kind_is_nil h1
  have HF:Hid (literalB t=true):=Hd (by rw[HL.out];rfl)
  go_enter Tryz.func84,Tryz.ntmps84
  go_wp2_with fail
  refine (HOf.out _ HB.out).mono ?_
  rintro e w1 ⟨uv,rfl,hb1,hu⟩
  have hbb:=HB.out.trans (hb1.mono (by simp))
  obtain rfl:=hu
  go_wp2
  go_ret
  exact ⟨ret_bool HF.out.symm,hbb⟩
 by_cases h2:kindV u=2
 ·obtain ⟨b,rfl⟩:=kind_is_bool h2
  have HF:Hid (literalB t=true):=Hd (by rw[HL.out];rfl)
  go_enter Tryz.func84,Tryz.ntmps84
  go_wp2_with fail
  refine (HOf.out _ HB.out).mono ?_
  rintro e w1 ⟨uv,rfl,hb1,hu⟩
  have hbb:=HB.out.trans (hb1.mono (by simp))
  obtain rfl:=hu
  go_wp2
  go_ret
  exact ⟨ret_bool HF.out.symm,hbb⟩
 by_cases h5:kindV u=5
 ·obtain ⟨b,rfl⟩:=kind_is_text h5
  have HF:Hid (literalB t=true):=Hd (by rw[HL.out];rfl)
  go_enter Tryz.func84,Tryz.ntmps84
  go_wp2_with fail
  refine (HOf.out _ HB.out).mono ?_
  rintro e w1 ⟨uv,rfl,hb1,hu⟩
  have hbb:=HB.out.trans (hb1.mono (by simp))
  obtain ⟨rfl,_⟩:=hu
  go_wp2
  go_ret
  exact ⟨ret_bool HF.out.symm,hbb⟩
 by_cases h6:kindV u=6
 ·obtain ⟨b,rfl⟩:=kind_is_bytes h6
  have HF:Hid (literalB t=true):=Hd (by rw[HL.out];rfl)
  go_enter Tryz.func84,Tryz.ntmps84
  go_wp2_with fail
  refine (HOf.out _ HB.out).mono ?_
  rintro e w1 ⟨uv,rfl,hb1,hu⟩
  have hbb:=HB.out.trans (hb1.mono (by simp))
  obtain ⟨Ab,cb,rfl,_⟩:=hu
  go_wp2
  go_ret
  exact ⟨ret_bool HF.out.symm,hbb⟩
 by_cases h7:kindV u=7
 ·obtain ⟨b,rfl⟩:=kind_is_ref h7
  have HF:Hid (literalB t=true):=Hd (by rw[HL.out];rfl)
  go_enter Tryz.func84,Tryz.ntmps84
  go_wp2_with fail
  refine (HOf.out _ HB.out).mono ?_
  rintro e w1 ⟨uv,rfl,hb1,hu⟩
  have hbb:=HB.out.trans (hb1.mono (by simp))
  obtain ⟨rfl,_⟩:=hu
  go_wp2
  go_ret
  exact ⟨ret_bool HF.out.symm,hbb⟩
 by_cases h3:kindV u=3
 ·obtain ⟨k,rfl⟩:=kind_is_int h3
  have HF:Hid (literalB t=decide (0≤k)):=Hd (by rw[HL.out];rfl)
  go_enter Tryz.func84,Tryz.ntmps84
  go_wp2_with fail
  refine (HOf.out _ HB.out).mono ?_
  rintro e w1 ⟨uv,rfl,hb1,hu⟩
  have hbb:=HB.out.trans (hb1.mono (by simp))
  obtain ⟨rfl,_⟩:=hu
  go_wp2
  go_ret
  exact ⟨ret_bool HF.out.symm,hbb⟩
 by_cases h4:kindV u=4
 ·obtain ⟨k,rfl⟩:=kind_is_flt h4
  have HU:Hid (literalB t=(!signB k&&(!infB k&&!nanB k))):=Hd (by rw[HL.out];rfl)
  have HS:=Hd (fun (W:World)=>signbit_any k W)
  have HI:=Hd (fun (W:World)=>isInf_any k W)
  have HN:=Hd (fun (W:World)=>isNaN_any k W)
  generalize signB k=s at *
  generalize infB k=i at *
  generalize nanB k=nn at *
  cases s with
  | true =>
   have HF:Hid (literalB t=false):=Hd (by rw[HU.out];rfl)
   go_enter Tryz.func84,Tryz.ntmps84
   go_wp2_with fail
   refine (HOf.out _ HB.out).mono ?_
   rintro e w1 ⟨uv,rfl,hb1,hu⟩
   have hbb:=HB.out.trans (hb1.mono (by simp))
   obtain rfl:=hu
   go_wp2_with fail
   refine (HS.out _).mono ?_
   rintro e w9 ⟨rfl,rfl⟩
   go_wp2
   go_ret
   exact ⟨ret_bool HF.out.symm,hbb⟩
  | false =>
   cases i with
   | true =>
    have HF:Hid (literalB t=false):=Hd (by rw[HU.out];rfl)
    go_enter Tryz.func84,Tryz.ntmps84
    go_wp2_with fail
    refine (HOf.out _ HB.out).mono ?_
    rintro e w1 ⟨uv,rfl,hb1,hu⟩
    have hbb:=HB.out.trans (hb1.mono (by simp))
    obtain rfl:=hu
    go_wp2_with fail
    refine (HS.out _).mono ?_
    rintro e w9 ⟨rfl,rfl⟩
    go_wp2_with fail
    refine (HI.out _).mono ?_
    rintro e w9 ⟨rfl,rfl⟩
    go_wp2
    go_ret
    exact ⟨ret_bool HF.out.symm,hbb⟩
   | false =>
    have HF:Hid (literalB t=!nn):=Hd (by rw[HU.out];rfl)
    go_enter Tryz.func84,Tryz.ntmps84
    go_wp2_with fail
    refine (HOf.out _ HB.out).mono ?_
    rintro e w1 ⟨uv,rfl,hb1,hu⟩
    have hbb:=HB.out.trans (hb1.mono (by simp))
    obtain rfl:=hu
    go_wp2_with fail
    refine (HS.out _).mono ?_
    rintro e w9 ⟨rfl,rfl⟩
    go_wp2_with fail
    refine (HI.out _).mono ?_
    rintro e w9 ⟨rfl,rfl⟩
    go_wp2_with fail
    refine (HN.out _).mono ?_
    rintro e w9 ⟨rfl,rfl⟩
    go_wp2
    go_ret
    exact ⟨ret_bool HF.out.symm,hbb⟩
 have HF:Hid (literalB t=false):=Hd (by rw[HL.out];cases u <;> first|rfl|exact absurd rfl h1|exact absurd rfl h2|exact absurd rfl h3|exact absurd rfl h4|exact absurd rfl h5|exact absurd rfl h6|exact absurd rfl h7)
 go_enter Tryz.func84,Tryz.ntmps84
 go_wp2_with fail
 refine (HOf.out _ HB.out).mono ?_
 rintro e w1 ⟨uv,rfl,hb1,hu⟩
 have hbb:=HB.out.trans (hb1.mono (by simp))
 obtain ⟨ty,zz,rfl⟩:=held_iface hu h1
 have k2:=fun (W:World)=>not_bool hu 20 W h2
 have k3:=fun (W:World)=>not_int hu 20 W h3
 have k4:=fun (W:World)=>not_flt hu 20 W h4
 have k5:=fun (W:World)=>not_text hu 20 W h5
 have k6:=fun (W:World)=>not_bytes hu 20 W h6
 have k7:=fun (W:World)=>not_ref hu 20 W h7
 go_wp2
 go_ret
 exact ⟨ret_bool HF.out.symm,hbb⟩
noncomputable def nameOK (s:ByteArray):Bool:=decide ((checkV (.dict [(s,.nil)])).2=0)
theorem qname_any (s:ByteArray) (w:World) (hs:s.size≤140737488351232):Calls Tryz.prog 85 #[.string s] w (BoolPost (nameOK s) w):=by
 have HB:Hid (Below w.heap.size w (w.alloc (.cells #[.string s,.nilIface] 44))):=Hd bnew
 have HC:Hid (Calls Tryz.prog 41 #[.iface 46 (.slice (some ⟨w.heap.size,0,none⟩) 1 1)] (w.alloc (.cells #[.string s,.nilIface] 44)) (fun e w'=>e=.returned (.tuple #[.int .i64 (checkV (.dict [(s,.nil)])).1,.int .i64 (checkV (.dict [(s,.nil)])).2])∧Below (w.alloc (.cells #[.string s,.nilIface] 44)).heap.size (w.alloc (.cells #[.string s,.nilIface] 44)) w')):=Hd (check_out (.dict [(s,.nil)]) _ _ ⟨some ⟨w.heap.size,0,none⟩,1,rfl,by simp,.inr ⟨w.heap.size,0,rfl,by simp,by
  rw[RdD,RdD]
  exact ⟨⟨by simp[go_sem],hs,.nilIface,by simp[go_sem],rfl⟩,trivial⟩⟩⟩)
 have HF:Hid (nameOK s=decide ((checkV (.dict [(s,.nil)])).2=0)):=Hd rfl
 generalize checkV (.dict [(s,.nil)])=ck at *
 by_cases hz:ck.2=0
 ·rw[hz]at HC
  replace HF:Hid (nameOK s=true):=Hd (by rw[HF.out,decide_eq_true hz])
  go_enter Tryz.func85,Tryz.ntmps85
  go_wp2_with fail
  refine HC.out.mono ?_
  rintro e w1 ⟨rfl,hb1⟩
  go_wp2
  go_ret
  exact ⟨ret_bool HF.out.symm,HB.out.trans (hb1.mono (by simp))⟩
 ·have hq:((ck.2:Int)==0)=false:=by rw[beq_eq_false_iff_ne];omega
  replace HF:Hid (nameOK s=false):=Hd (by rw[HF.out,decide_eq_false hz])
  go_enter Tryz.func85,Tryz.ntmps85
  go_wp2_with fail
  refine HC.out.mono ?_
  rintro e w1 ⟨rfl,hb1⟩
  go_wp2
  go_ret
  exact ⟨ret_bool HF.out.symm,HB.out.trans (hb1.mono (by simp))⟩
theorem wcontains_any (l:List ByteArray) (b off c:Nat) (s:ByteArray) (w:World) (hl:l.length≤1048576) (hc:∀i t,l[i]?=some t→w.cell? ⟨b,off+i,none⟩=some (.string t)) :
  Calls Tryz.prog 86 #[.slice (some ⟨b,off,none⟩) l.length c,.string s] w (fun e w'=>e=.returned (.bool (decide (0≤idxW l s 0)))∧w=w'):=by
 have HI:=Hd (windex_any l b off c s w hl hc)
 clear hc
 go_enter Tryz.func86,Tryz.ntmps86
 go_wp2_with fail
 refine HI.out.mono ?_
 rintro e w1 ⟨rfl,rfl⟩
 go_wp2
 go_ret
 exact ⟨rfl,rfl⟩
theorem call_lists (g:ByteArray) (hm:g=gSum∨g=gFirst∨g=gLast∨g=gLeast∨g=gMost) (hnot:∀s∈[gLen,gKind,gKeys,gHas],g≠s) (htb:turnsB g=false) (htu:∀W:World,Calls Tryz.prog 94 #[.string g] W (fun e w2=>e=.returned (.bool false)∧W=w2)) (a:Int) (p0:Ex) (A:Option Addr) (c:Nat) (y:List Value) (hy:Eleven y) (ih0:AskC p0) (v:V) (vv:Value) (n:Nat) (S:Nat→Prop) (w:World) (bw:Nat)
  (hS:Seen S w bw) (hbw:bw<w.heap.size) (hn:n≤1048576) (hp:PartsS w S A [p0]) (hv:RdS w S v vv) (ht:tameV v) (hw:Words w S 1 kindWords) (hh:Hold w bw 0 (.int .i64 n)) :
  Calls Tryz.prog 66 #[.pointer (some ⟨bw,0,none⟩),eV oCall a (.slice A 1 c) g y,vv] w (AskPost S bw (callA g a (askL [p0]) v n) w):=by
 have HBad:=Hd (fun (W:World)=>bad_any oCall a (.slice A 1 c) g y hy rfl W)
 have HGood:=Hd (fun (x:V) (u:Value) (S':Nat→Prop) (W:World)=>good_any oCall a (.slice A 1 c) g y hy rfl x u S' W)
 have hy':=hy
 obtain ⟨n0,n1,n2,n3,n4,n5,n6,n7,n8,n9,n10,rfl,h1⟩:=hy
 clear h1
 unfold eV at *
 have HB:Hid (Below w.heap.size w (w.alloc (.cells #[.string oCall,.int .i64 a,.slice A 1 c,.string g,n0,n1,n2,n3,n4,n5,n6,n7,n8,n9,n10] 32))):=Hd bnew
 have HA0:Hid (Aside bw w (w.alloc (.cells #[.string oCall,.int .i64 a,.slice A 1 c,.string g,n0,n1,n2,n3,n4,n5,n6,n7,n8,n9,n10] 32))):=Hd (Aside.of_below HB.out)
 obtain ⟨bp,offp,xs,eA,hSb,c0,hxs⟩:=hp.get (k:=0) (x:=p0) rfl
 subst eA
 rw[Nat.zero_mul,Nat.add_zero]at c0
 have c1:=c0.keep (fun p hp=>HB.out.cell (by rw[hp];exact (hS bp hSb).1))
 have HC:=Hd (ih0 xs v vv n S _ bw (hS.to HB.out.size) (Nat.lt_of_lt_of_le hbw HB.out.size) hn (hxs.aside hS HA0.out) (hv.aside hS HA0.out) ht (hw.aside hS HA0.out) (hh.below HB.out hbw))
 have HCnt:=Hd (ask_count p0 v n hn)
 have HTm:=Hd (ask_tame p0 v n ht)
 have HU:Hid (callA g a (askL [p0]) v n=bindA (askV p0 v n) fun x m=>(match x with | .list xs=>listedV g a xs|_=>.gone a 172,m)):=Hd (by unfold callA;refine congrArg (bindA _) ?_;funext x m;rw[if_neg (by rw[htb];simp),if_neg (hnot _ (by simp)),if_neg (hnot _ (by simp)),if_neg (hnot _ (by simp)),if_neg (hnot _ (by simp))];cases x <;> rfl)
 have hne:w.heap.size≠bw:=by omega
 clear ih0 hp hh c0
 generalize askV p0 v n=q at *
 obtain ⟨op',a',l',nm',t'⟩:=p0
 obtain ⟨A',c',y',rfl,-,-,-,hty,-⟩:=hxs
 obtain ⟨m0,m1,m2,m3,m4,m5,m6,m7,m8,m9,m10,rfl,h1c⟩:=hty.elevenS
 unfold termOf at HC
 obtain ⟨q0,q1,q2,q3,q4,q5,q6,q7,q8,q9,q10,q11,q12,q13,q14⟩:=lie15 c1
 clear hty h1c c1
 obtain ⟨ou,m'⟩:=q
 have xLen:=neS [108,101,110] (hnot gLen (by simp))
 have xKind:=neS [107,105,110,100] (hnot gKind (by simp))
 have xKeys:=neS [107,101,121,115] (hnot gKeys (by simp))
 have xHas:=neS [104,97,115] (hnot gHas (by simp))
 clear hnot htb
 go_enter Tryz.func66,Tryz.ntmps66
 cases ou with
 | gone ga gw =>
  go_wp2_with fail
  refine HC.out.mono ?_
  rintro e w1 ⟨hA2,hH2,rfl⟩
  exact ⟨rfl,AskPost.gone_ (by rw[HU.out];rfl) (HA0.out.trans hA2) hH2⟩
 | val u =>
  have hm2:m'≤1048576:=HCnt.out u rfl
  have hut:tameV u:=HTm.out u rfl
  have HU2:=Hd (HU.out.trans rfl)
  clear HCnt HTm HU
  go_wp2_with fail
  refine HC.out.mono ?_
  rintro e w1 ⟨hA2,hH2,uv,rfl,huv⟩
  have hA3:=HA0.out.trans hA2
  have hz3:=hA3.size
  have hz4:w.heap.size+1≤w1.heap.size:=by have:=hA2.size;simp at this;omega
  have hS1:Seen (fun b=>S b∨New (w.alloc (.cells #[.string oCall,.int .i64 a,.slice (some ⟨bp,offp,none⟩) 1 c,.string g,n0,n1,n2,n3,n4,n5,n6,n7,n8,n9,n10] 32)) w1 b) w1 bw:=(hS.to HB.out.size).more (Nat.lt_of_lt_of_le hbw HB.out.size) hA2.size
  have hSN:∀b,(S b∨New (w.alloc (.cells #[.string oCall,.int .i64 a,.slice (some ⟨bp,offp,none⟩) 1 c,.string g,n0,n1,n2,n3,n4,n5,n6,n7,n8,n9,n10] 32)) w1 b)→S b∨New w w1 b:=fun b h=>h.imp id (fun h=>⟨Nat.le_trans HB.out.size h.1,h.2⟩)
  have hbw1:bw<w1.heap.size:=by omega
  have qe:=fun (o:Nat)=>hA2.cell (p:=⟨w.heap.size,o,none⟩) (by simp) hne
  have HTu:=Hd (htu w1)
  go_wp2_with fail
  refine HTu.out.mono ?_
  rintro e w2 ⟨rfl,rfl⟩
  by_cases h8:kindV u=8
  ·obtain ⟨l,rfl⟩:=kind_is_list h8
   obtain ⟨Al,cl,rfl,hll,⟨-,hcl⟩,hl⟩:=huv
   have HLs:=Hd (listed_any oCall a (.slice (some ⟨bp,offp,none⟩) 1 c) [n0,n1,n2,n3,n4,n5,n6,n7,n8,n9,n10] hy' rfl g hm l Al cl _ w1 (fun b h=>(hS1 b h).1) hll hcl hl (fun x hx=>tame_top (tameL_iff.1 hut.2 x hx)))
   unfold eV at HLs
   clear hl
   go_wp2_with fail
   refine HLs.out.mono ?_
   rintro e w9 hr9
   have hP:AskPost S bw (listedV g a l,m') w e w9:=AskPost.out hr9 hA3 hSN hbw1 hH2
   replace hP:=AskPost.eq_ HU2.out hP
   cases hg:listedV g a l with
   | val t =>
    rw[hg]at hr9
    obtain ⟨hb9,v9,rfl,hv9⟩:=hr9
    go_wp2
    go_ret
    exact hP
   | gone gb gw =>
    rw[hg]at hr9
    obtain ⟨hb9,rfl⟩:=hr9
    exact ⟨rfl,hP⟩
  ·have k0:=fun (W:World)=>not_list huv 20 W h8
   go_wp2_with fail
   refine (HBad.out _).mono ?_
   rintro e w9 ⟨rfl,hb9⟩
   exact ⟨rfl,AskPost.gone_ (by rw[HU2.out];cases u <;> first|rfl|exact absurd rfl h8) (hA3.trans (Aside.of_below hb9)) (hH2.below hb9 hbw1)⟩
end Go.Proofs.YtbemeapjeipjlaaGreatDoor
