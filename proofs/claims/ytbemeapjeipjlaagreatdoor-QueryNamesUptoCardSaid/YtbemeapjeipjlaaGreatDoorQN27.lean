/- Walks of the reference's query: in, words, kinds, functions, takes, Each, parts. -/
import Derived.Test.YtbemeapjeipjlaaGreatDoorQN10
import Derived.Test.YtbemeapjeipjlaaGreatDoorQN11
import Derived.Test.YtbemeapjeipjlaaGreatDoorQN26
set_option linter.unusedVariables false
set_option linter.unusedSimpArgs false
namespace Go.Proofs.YtbemeapjeipjlaaGreatDoor
open Go Go.RowKit
set_option maxRecDepth 100000
set_option maxHeartbeats 8000000
theorem rin_any (l:List ByteArray) (A:Option Addr) (c:Nat) (s:ByteArray) (w:World) (hl:l.length≤1048576) (hA:l=[]∨∃b off,A=some ⟨b,off,none⟩∧∀i t,l[i]?=some t→w.cell? ⟨b,off+i,none⟩=some (.string t)) :
  Calls Tryz.prog 54 #[.slice A l.length c,.string s] w (NumPost (idxW l s 0) w):=by
 go_enter Tryz.func54,Tryz.ntmps54
 go_wp2
 go_loopw [5] (fun i wr=>∃k:Nat,i=.int .i64 k∧k≤l.length∧Hid (idxW l s 0=idxW (l.drop k) s k)∧w=wr) (fun i _=>l.length-(intOf i).toNat)
 case atStart=>exact ⟨0,rfl,by omega,Hd rfl,rfl⟩
 case round =>
  obtain ⟨k,rfl,hk,HT,rfl⟩:=hrel
  by_cases hlt:k<l.length
  ·obtain ⟨b,off,rfl,hc⟩:=hA.resolve_left (fun h=>by rw[h]at hlt;simp at hlt)
   obtain ⟨t,ht⟩:∃t,l[k]?=some t:=⟨_,List.getElem?_eq_getElem hlt⟩
   have d0:=hc k t ht
   have HU:Hid (idxW l s 0=if (s.toList==t.toList)=true then (k:Int) else idxW (l.drop (k+1)) s (k+1)):=Hd (by
    rw[HT.out,List.drop_eq_getElem_cons hlt]
    rw[List.getElem?_eq_getElem hlt]at ht;injection ht with ht;rw[ht];rfl)
   clear ht HT hc
   have hsy:(t.toList==s.toList)=(s.toList==t.toList):=by rw[Bool.eq_iff_iff];constructor <;> (intro h;exact beq_iff_eq.2 (beq_iff_eq.1 h).symm)
   cases hq:(s.toList==t.toList) <;> rw[hq]at hsy
   ·have HU2:Hid (idxW l s 0=idxW (l.drop (k+1)) s (k+1)):=Hd (by rw[HU.out,if_neg (by rw[hq];simp)])
    clear HU
    go_wp2
    refine ⟨⟨k+1,rfl,hlt,HU2,trivial⟩,?_⟩
    simp[intOf];omega
   ·have HU2:Hid (idxW l s 0=(k:Int)):=Hd (by rw[HU.out,if_pos hq])
    clear HU
    go_wp2
    go_ret
    exact ⟨ret_num HU2.out.symm,rfl⟩
  ·obtain rfl:k=l.length:=by omega
   have HU2:Hid (idxW l s 0=-1):=Hd (by rw[HT.out,List.drop_length];rfl)
   clear HT hA
   go_wp2
   go_ret
   exact ⟨ret_num HU2.out.symm,rfl⟩
def rwords:List ByteArray:=[⟨#[111,114]⟩,⟨#[97,110,100]⟩,⟨#[110,111,116]⟩,⟨#[105,110]⟩,⟨#[105,115]⟩,⟨#[110,105,108]⟩,⟨#[116,114,117,101]⟩,⟨#[102,97,108,115,101]⟩,⟨#[115,101,108,102]⟩,⟨#[110,97,110]⟩]
def rwordsW (w:World):World:=w.alloc (.cells #[.string ⟨#[111,114]⟩,.string ⟨#[97,110,100]⟩,.string ⟨#[110,111,116]⟩,.string ⟨#[105,110]⟩,.string ⟨#[105,115]⟩,.string ⟨#[110,105,108]⟩,.string ⟨#[116,114,117,101]⟩,.string ⟨#[102,97,108,115,101]⟩,.string ⟨#[115,101,108,102]⟩,.string ⟨#[110,97,110]⟩] 9)
theorem rwords_any (w:World):Calls Tryz.prog 55 #[] w (fun e w'=>e=.returned (.slice (some ⟨w.heap.size,0,none⟩) 10 10)∧w'=rwordsW w):=by
 go_enter Tryz.func55,Tryz.ntmps55
 go_wp2
 go_ret
 exact ⟨rfl,rfl⟩
theorem rwords_at (w:World):∀(i:Nat) t,rwords[i]?=some t→(rwordsW w).cell? ⟨w.heap.size,0+i,none⟩=some (.string t):=by
 intro i t h
 unfold rwords at h
 unfold rwordsW
 have hi:=(List.getElem?_eq_some_iff.1 h).1
 simp only[List.length_cons,List.length_nil]at hi
 match i,hi with
 | 0,_=>obtain rfl:=Option.some.inj h;simp[go_sem]
 | 1,_=>obtain rfl:=Option.some.inj h;simp[go_sem]
 | 2,_=>obtain rfl:=Option.some.inj h;simp[go_sem]
 | 3,_=>obtain rfl:=Option.some.inj h;simp[go_sem]
 | 4,_=>obtain rfl:=Option.some.inj h;simp[go_sem]
 | 5,_=>obtain rfl:=Option.some.inj h;simp[go_sem]
 | 6,_=>obtain rfl:=Option.some.inj h;simp[go_sem]
 | 7,_=>obtain rfl:=Option.some.inj h;simp[go_sem]
 | 8,_=>obtain rfl:=Option.some.inj h;simp[go_sem]
 | 9,_=>obtain rfl:=Option.some.inj h;simp[go_sem]
theorem rwords_below (w:World):Below w.heap.size w (rwordsW w):=bnew
def rkinds:List ByteArray:=[⟨#[110,105,108]⟩,⟨#[98,111,111,108]⟩,⟨#[105,110,116]⟩,⟨#[102,108,111,97,116]⟩,⟨#[116,101,120,116]⟩,⟨#[98,121,116,101,115]⟩,⟨#[114,101,102]⟩,⟨#[108,105,115,116]⟩,⟨#[100,105,99,116]⟩,⟨#[114,101,99,111,114,100]⟩]
def rkindsW (w:World):World:=w.alloc (.cells #[.string ⟨#[110,105,108]⟩,.string ⟨#[98,111,111,108]⟩,.string ⟨#[105,110,116]⟩,.string ⟨#[102,108,111,97,116]⟩,.string ⟨#[116,101,120,116]⟩,.string ⟨#[98,121,116,101,115]⟩,.string ⟨#[114,101,102]⟩,.string ⟨#[108,105,115,116]⟩,.string ⟨#[100,105,99,116]⟩,.string ⟨#[114,101,99,111,114,100]⟩] 9)
theorem rkinds_any (w:World):Calls Tryz.prog 56 #[] w (fun e w'=>e=.returned (.slice (some ⟨w.heap.size,0,none⟩) 10 10)∧w'=rkindsW w):=by
 go_enter Tryz.func56,Tryz.ntmps56
 go_wp2
 go_ret
 exact ⟨rfl,rfl⟩
theorem rkinds_at (w:World):∀(i:Nat) t,rkinds[i]?=some t→(rkindsW w).cell? ⟨w.heap.size,0+i,none⟩=some (.string t):=by
 intro i t h
 unfold rkinds at h
 unfold rkindsW
 have hi:=(List.getElem?_eq_some_iff.1 h).1
 simp only[List.length_cons,List.length_nil]at hi
 match i,hi with
 | 0,_=>obtain rfl:=Option.some.inj h;simp[go_sem]
 | 1,_=>obtain rfl:=Option.some.inj h;simp[go_sem]
 | 2,_=>obtain rfl:=Option.some.inj h;simp[go_sem]
 | 3,_=>obtain rfl:=Option.some.inj h;simp[go_sem]
 | 4,_=>obtain rfl:=Option.some.inj h;simp[go_sem]
 | 5,_=>obtain rfl:=Option.some.inj h;simp[go_sem]
 | 6,_=>obtain rfl:=Option.some.inj h;simp[go_sem]
 | 7,_=>obtain rfl:=Option.some.inj h;simp[go_sem]
 | 8,_=>obtain rfl:=Option.some.inj h;simp[go_sem]
 | 9,_=>obtain rfl:=Option.some.inj h;simp[go_sem]
theorem rkinds_below (w:World):Below w.heap.size w (rkindsW w):=bnew
def rfunctions:List ByteArray:=[⟨#[108,101,110]⟩,⟨#[107,105,110,100]⟩,⟨#[107,101,121,115]⟩,⟨#[102,105,114,115,116]⟩,⟨#[108,97,115,116]⟩,⟨#[115,117,109]⟩,⟨#[108,101,97,115,116]⟩,⟨#[109,111,115,116]⟩,⟨#[104,97,115]⟩,⟨#[97,110,121]⟩,⟨#[97,108,108]⟩,⟨#[109,97,112]⟩,⟨#[112,105,99,107]⟩]
def rfunctionsW (w:World):World:=w.alloc (.cells #[.string ⟨#[108,101,110]⟩,.string ⟨#[107,105,110,100]⟩,.string ⟨#[107,101,121,115]⟩,.string ⟨#[102,105,114,115,116]⟩,.string ⟨#[108,97,115,116]⟩,.string ⟨#[115,117,109]⟩,.string ⟨#[108,101,97,115,116]⟩,.string ⟨#[109,111,115,116]⟩,.string ⟨#[104,97,115]⟩,.string ⟨#[97,110,121]⟩,.string ⟨#[97,108,108]⟩,.string ⟨#[109,97,112]⟩,.string ⟨#[112,105,99,107]⟩] 9)
theorem rfunctions_any (w:World):Calls Tryz.prog 122 #[] w (fun e w'=>e=.returned (.slice (some ⟨w.heap.size,0,none⟩) 13 13)∧w'=rfunctionsW w):=by
 go_enter Tryz.func122,Tryz.ntmps122
 go_wp2
 go_ret
 exact ⟨rfl,rfl⟩
theorem rfunctions_at (w:World):∀(i:Nat) t,rfunctions[i]?=some t→(rfunctionsW w).cell? ⟨w.heap.size,0+i,none⟩=some (.string t):=by
 intro i t h
 unfold rfunctions at h
 unfold rfunctionsW
 have hi:=(List.getElem?_eq_some_iff.1 h).1
 simp only[List.length_cons,List.length_nil]at hi
 match i,hi with
 | 0,_=>obtain rfl:=Option.some.inj h;simp[go_sem]
 | 1,_=>obtain rfl:=Option.some.inj h;simp[go_sem]
 | 2,_=>obtain rfl:=Option.some.inj h;simp[go_sem]
 | 3,_=>obtain rfl:=Option.some.inj h;simp[go_sem]
 | 4,_=>obtain rfl:=Option.some.inj h;simp[go_sem]
 | 5,_=>obtain rfl:=Option.some.inj h;simp[go_sem]
 | 6,_=>obtain rfl:=Option.some.inj h;simp[go_sem]
 | 7,_=>obtain rfl:=Option.some.inj h;simp[go_sem]
 | 8,_=>obtain rfl:=Option.some.inj h;simp[go_sem]
 | 9,_=>obtain rfl:=Option.some.inj h;simp[go_sem]
 | 10,_=>obtain rfl:=Option.some.inj h;simp[go_sem]
 | 11,_=>obtain rfl:=Option.some.inj h;simp[go_sem]
 | 12,_=>obtain rfl:=Option.some.inj h;simp[go_sem]
theorem rfunctions_below (w:World):Below w.heap.size w (rfunctionsW w):=bnew
def takesR (nm:ByteArray):Int:=if idxW rfunctions nm 0<0 then 0 else if idxW rfunctions nm 0<8 then 1 else 2
theorem rtakes_any (nm:ByteArray) (w:World):Calls Tryz.prog 81 #[.string nm] w (OrdPost (takesR nm) w):=by
 have HFn:=Hd (rfunctions_any w)
 have HI:=Hd (rin_any rfunctions (some ⟨w.heap.size,0,none⟩) 13 nm (rfunctionsW w) (by decide) (.inr ⟨_,_,rfl,rfunctions_at w⟩))
 have HB:=Hd (rfunctions_below w)
 have HR:Hid (takesR nm=if idxW rfunctions nm 0<0 then 0 else if idxW rfunctions nm 0<8 then 1 else 2):=Hd rfl
 rw[show rfunctions.length=13 from rfl]at HI
 generalize idxW rfunctions nm 0=n at *
 go_enter Tryz.func81,Tryz.ntmps81
 go_wp2_with fail
 refine HFn.out.mono ?_
 rintro e w1 ⟨rfl,rfl⟩
 go_wp2_with fail
 refine HI.out.mono ?_
 rintro e w1 ⟨rfl,rfl⟩
 by_cases h0:n<0
 ·go_wp2
  go_ret
  exact ⟨ret_num (by rw[HR.out,if_pos (by omega)]),HB.out⟩
 ·by_cases h8:n<8
  ·go_wp2
   go_ret
   exact ⟨ret_num (by rw[HR.out,if_neg (by omega),if_pos (by omega)]),HB.out⟩
  ·go_wp2
   go_ret
   exact ⟨ret_num (by rw[HR.out,if_neg (by omega),if_neg (by omega)]),HB.out⟩
theorem reach_any (nm:ByteArray) (w:World):Calls Tryz.prog 38 #[.string nm] w (fun e w'=>e=.returned (.bool (turnsB nm))∧w=w'):=by
 by_cases hAny:nm=gAny
 ·subst hAny
  go_enter Tryz.func38,Tryz.ntmps38
  go_wp2
  go_ret
  exact ⟨rfl,rfl⟩
 by_cases hAll:nm=gAll
 ·subst hAll
  go_enter Tryz.func38,Tryz.ntmps38
  go_wp2
  go_ret
  exact ⟨rfl,rfl⟩
 by_cases hMap:nm=gMap
 ·subst hMap
  go_enter Tryz.func38,Tryz.ntmps38
  go_wp2
  go_ret
  exact ⟨rfl,rfl⟩
 by_cases hPick:nm=gPick
 ·subst hPick
  go_enter Tryz.func38,Tryz.ntmps38
  go_wp2
  go_ret
  exact ⟨rfl,rfl⟩
 have HF:Hid (turnsB nm=false):=Hd (by unfold turnsB;simp[hAny,hAll,hMap,hPick])
 have eAny:=neS [97,110,121] hAny
 have eAll:=neS [97,108,108] hAll
 have eMap:=neS [109,97,112] hMap
 have ePick:=neS [112,105,99,107] hPick
 clear hAny hAll hMap hPick
 go_enter Tryz.func38,Tryz.ntmps38
 go_wp2
 go_ret
 exact ⟨congrArg (fun x=>Ending.returned (Value.bool x)) HF.out.symm,rfl⟩
def partsR (op nm:ByteArray):Int:=
 if op.toList∈[oOr,oAnd,oEq,oNe,oLt,oLe,oGt,oGe,oIn,oAdd,oSub,oMul,oDiv,oRem,oAt].map (·.toList) then 2 else if op.toList∈[oNot,oNeg,oDot,oIs].map (·.toList) then 1 else if op.toList∈[oValue,oSelf,oField].map (·.toList) then 0 else if op.toList=oList.toList then 9 else if op.toList=oCall.toList∧0<takesR nm then takesR nm else -1
theorem rparts_of (op:ByteArray) (a:Int) (p:Value) (nm:ByteArray) (y:List Value) (hy:Eleven y) (hp:p.oneCell'=true) (w:World):Calls Tryz.prog 52 #[eV op a p nm y] w (OrdPost (partsR op nm) w):=by
 by_cases hOr:op=oOr
 ·subst hOr
  have HF:Hid (partsR oOr nm=2):=Hd (by unfold partsR;simp[bytes_toList])
  obtain ⟨n0,n1,n2,n3,n4,n5,n6,n7,n8,n9,n10,rfl,h1⟩:=hy
  clear h1
  unfold eV at *
  have HB:Hid (Below w.heap.size w (w.alloc (.cells #[.string oOr,.int .i64 a,p,.string nm,n0,n1,n2,n3,n4,n5,n6,n7,n8,n9,n10] 32))):=Hd bnew
  go_enter Tryz.func52,Tryz.ntmps52
  go_wp2
  go_ret
  exact ⟨ret_num HF.out.symm,HB.out⟩
 by_cases hAnd:op=oAnd
 ·subst hAnd
  have HF:Hid (partsR oAnd nm=2):=Hd (by unfold partsR;simp[bytes_toList])
  obtain ⟨n0,n1,n2,n3,n4,n5,n6,n7,n8,n9,n10,rfl,h1⟩:=hy
  clear h1
  unfold eV at *
  have HB:Hid (Below w.heap.size w (w.alloc (.cells #[.string oAnd,.int .i64 a,p,.string nm,n0,n1,n2,n3,n4,n5,n6,n7,n8,n9,n10] 32))):=Hd bnew
  go_enter Tryz.func52,Tryz.ntmps52
  go_wp2
  go_ret
  exact ⟨ret_num HF.out.symm,HB.out⟩
 by_cases hEq:op=oEq
 ·subst hEq
  have HF:Hid (partsR oEq nm=2):=Hd (by unfold partsR;simp[bytes_toList])
  obtain ⟨n0,n1,n2,n3,n4,n5,n6,n7,n8,n9,n10,rfl,h1⟩:=hy
  clear h1
  unfold eV at *
  have HB:Hid (Below w.heap.size w (w.alloc (.cells #[.string oEq,.int .i64 a,p,.string nm,n0,n1,n2,n3,n4,n5,n6,n7,n8,n9,n10] 32))):=Hd bnew
  go_enter Tryz.func52,Tryz.ntmps52
  go_wp2
  go_ret
  exact ⟨ret_num HF.out.symm,HB.out⟩
 by_cases hNe:op=oNe
 ·subst hNe
  have HF:Hid (partsR oNe nm=2):=Hd (by unfold partsR;simp[bytes_toList])
  obtain ⟨n0,n1,n2,n3,n4,n5,n6,n7,n8,n9,n10,rfl,h1⟩:=hy
  clear h1
  unfold eV at *
  have HB:Hid (Below w.heap.size w (w.alloc (.cells #[.string oNe,.int .i64 a,p,.string nm,n0,n1,n2,n3,n4,n5,n6,n7,n8,n9,n10] 32))):=Hd bnew
  go_enter Tryz.func52,Tryz.ntmps52
  go_wp2
  go_ret
  exact ⟨ret_num HF.out.symm,HB.out⟩
 by_cases hLt:op=oLt
 ·subst hLt
  have HF:Hid (partsR oLt nm=2):=Hd (by unfold partsR;simp[bytes_toList])
  obtain ⟨n0,n1,n2,n3,n4,n5,n6,n7,n8,n9,n10,rfl,h1⟩:=hy
  clear h1
  unfold eV at *
  have HB:Hid (Below w.heap.size w (w.alloc (.cells #[.string oLt,.int .i64 a,p,.string nm,n0,n1,n2,n3,n4,n5,n6,n7,n8,n9,n10] 32))):=Hd bnew
  go_enter Tryz.func52,Tryz.ntmps52
  go_wp2
  go_ret
  exact ⟨ret_num HF.out.symm,HB.out⟩
 by_cases hLe:op=oLe
 ·subst hLe
  have HF:Hid (partsR oLe nm=2):=Hd (by unfold partsR;simp[bytes_toList])
  obtain ⟨n0,n1,n2,n3,n4,n5,n6,n7,n8,n9,n10,rfl,h1⟩:=hy
  clear h1
  unfold eV at *
  have HB:Hid (Below w.heap.size w (w.alloc (.cells #[.string oLe,.int .i64 a,p,.string nm,n0,n1,n2,n3,n4,n5,n6,n7,n8,n9,n10] 32))):=Hd bnew
  go_enter Tryz.func52,Tryz.ntmps52
  go_wp2
  go_ret
  exact ⟨ret_num HF.out.symm,HB.out⟩
 by_cases hGt:op=oGt
 ·subst hGt
  have HF:Hid (partsR oGt nm=2):=Hd (by unfold partsR;simp[bytes_toList])
  obtain ⟨n0,n1,n2,n3,n4,n5,n6,n7,n8,n9,n10,rfl,h1⟩:=hy
  clear h1
  unfold eV at *
  have HB:Hid (Below w.heap.size w (w.alloc (.cells #[.string oGt,.int .i64 a,p,.string nm,n0,n1,n2,n3,n4,n5,n6,n7,n8,n9,n10] 32))):=Hd bnew
  go_enter Tryz.func52,Tryz.ntmps52
  go_wp2
  go_ret
  exact ⟨ret_num HF.out.symm,HB.out⟩
 by_cases hGe:op=oGe
 ·subst hGe
  have HF:Hid (partsR oGe nm=2):=Hd (by unfold partsR;simp[bytes_toList])
  obtain ⟨n0,n1,n2,n3,n4,n5,n6,n7,n8,n9,n10,rfl,h1⟩:=hy
  clear h1
  unfold eV at *
  have HB:Hid (Below w.heap.size w (w.alloc (.cells #[.string oGe,.int .i64 a,p,.string nm,n0,n1,n2,n3,n4,n5,n6,n7,n8,n9,n10] 32))):=Hd bnew
  go_enter Tryz.func52,Tryz.ntmps52
  go_wp2
  go_ret
  exact ⟨ret_num HF.out.symm,HB.out⟩
 by_cases hIn:op=oIn
 ·subst hIn
  have HF:Hid (partsR oIn nm=2):=Hd (by unfold partsR;simp[bytes_toList])
  obtain ⟨n0,n1,n2,n3,n4,n5,n6,n7,n8,n9,n10,rfl,h1⟩:=hy
  clear h1
  unfold eV at *
  have HB:Hid (Below w.heap.size w (w.alloc (.cells #[.string oIn,.int .i64 a,p,.string nm,n0,n1,n2,n3,n4,n5,n6,n7,n8,n9,n10] 32))):=Hd bnew
  go_enter Tryz.func52,Tryz.ntmps52
  go_wp2
  go_ret
  exact ⟨ret_num HF.out.symm,HB.out⟩
 by_cases hAdd:op=oAdd
 ·subst hAdd
  have HF:Hid (partsR oAdd nm=2):=Hd (by unfold partsR;simp[bytes_toList])
  obtain ⟨n0,n1,n2,n3,n4,n5,n6,n7,n8,n9,n10,rfl,h1⟩:=hy
  clear h1
  unfold eV at *
  have HB:Hid (Below w.heap.size w (w.alloc (.cells #[.string oAdd,.int .i64 a,p,.string nm,n0,n1,n2,n3,n4,n5,n6,n7,n8,n9,n10] 32))):=Hd bnew
  go_enter Tryz.func52,Tryz.ntmps52
  go_wp2
  go_ret
  exact ⟨ret_num HF.out.symm,HB.out⟩
 by_cases hSub:op=oSub
 ·subst hSub
  have HF:Hid (partsR oSub nm=2):=Hd (by unfold partsR;simp[bytes_toList])
  obtain ⟨n0,n1,n2,n3,n4,n5,n6,n7,n8,n9,n10,rfl,h1⟩:=hy
  clear h1
  unfold eV at *
  have HB:Hid (Below w.heap.size w (w.alloc (.cells #[.string oSub,.int .i64 a,p,.string nm,n0,n1,n2,n3,n4,n5,n6,n7,n8,n9,n10] 32))):=Hd bnew
  go_enter Tryz.func52,Tryz.ntmps52
  go_wp2
  go_ret
  exact ⟨ret_num HF.out.symm,HB.out⟩
 by_cases hMul:op=oMul
 ·subst hMul
  have HF:Hid (partsR oMul nm=2):=Hd (by unfold partsR;simp[bytes_toList])
  obtain ⟨n0,n1,n2,n3,n4,n5,n6,n7,n8,n9,n10,rfl,h1⟩:=hy
  clear h1
  unfold eV at *
  have HB:Hid (Below w.heap.size w (w.alloc (.cells #[.string oMul,.int .i64 a,p,.string nm,n0,n1,n2,n3,n4,n5,n6,n7,n8,n9,n10] 32))):=Hd bnew
  go_enter Tryz.func52,Tryz.ntmps52
  go_wp2
  go_ret
  exact ⟨ret_num HF.out.symm,HB.out⟩
 by_cases hDiv:op=oDiv
 ·subst hDiv
  have HF:Hid (partsR oDiv nm=2):=Hd (by unfold partsR;simp[bytes_toList])
  obtain ⟨n0,n1,n2,n3,n4,n5,n6,n7,n8,n9,n10,rfl,h1⟩:=hy
  clear h1
  unfold eV at *
  have HB:Hid (Below w.heap.size w (w.alloc (.cells #[.string oDiv,.int .i64 a,p,.string nm,n0,n1,n2,n3,n4,n5,n6,n7,n8,n9,n10] 32))):=Hd bnew
  go_enter Tryz.func52,Tryz.ntmps52
  go_wp2
  go_ret
  exact ⟨ret_num HF.out.symm,HB.out⟩
 by_cases hRem:op=oRem
 ·subst hRem
  have HF:Hid (partsR oRem nm=2):=Hd (by unfold partsR;simp[bytes_toList])
  obtain ⟨n0,n1,n2,n3,n4,n5,n6,n7,n8,n9,n10,rfl,h1⟩:=hy
  clear h1
  unfold eV at *
  have HB:Hid (Below w.heap.size w (w.alloc (.cells #[.string oRem,.int .i64 a,p,.string nm,n0,n1,n2,n3,n4,n5,n6,n7,n8,n9,n10] 32))):=Hd bnew
  go_enter Tryz.func52,Tryz.ntmps52
  go_wp2
  go_ret
  exact ⟨ret_num HF.out.symm,HB.out⟩
 by_cases hAt:op=oAt
 ·subst hAt
  have HF:Hid (partsR oAt nm=2):=Hd (by unfold partsR;simp[bytes_toList])
  obtain ⟨n0,n1,n2,n3,n4,n5,n6,n7,n8,n9,n10,rfl,h1⟩:=hy
  clear h1
  unfold eV at *
  have HB:Hid (Below w.heap.size w (w.alloc (.cells #[.string oAt,.int .i64 a,p,.string nm,n0,n1,n2,n3,n4,n5,n6,n7,n8,n9,n10] 32))):=Hd bnew
  go_enter Tryz.func52,Tryz.ntmps52
  go_wp2
  go_ret
  exact ⟨ret_num HF.out.symm,HB.out⟩
 by_cases hNot:op=oNot
 ·subst hNot
  have HF:Hid (partsR oNot nm=1):=Hd (by unfold partsR;simp[bytes_toList])
  obtain ⟨n0,n1,n2,n3,n4,n5,n6,n7,n8,n9,n10,rfl,h1⟩:=hy
  clear h1
  unfold eV at *
  have HB:Hid (Below w.heap.size w (w.alloc (.cells #[.string oNot,.int .i64 a,p,.string nm,n0,n1,n2,n3,n4,n5,n6,n7,n8,n9,n10] 32))):=Hd bnew
  go_enter Tryz.func52,Tryz.ntmps52
  go_wp2
  go_ret
  exact ⟨ret_num HF.out.symm,HB.out⟩
 by_cases hNeg:op=oNeg
 ·subst hNeg
  have HF:Hid (partsR oNeg nm=1):=Hd (by unfold partsR;simp[bytes_toList])
  obtain ⟨n0,n1,n2,n3,n4,n5,n6,n7,n8,n9,n10,rfl,h1⟩:=hy
  clear h1
  unfold eV at *
  have HB:Hid (Below w.heap.size w (w.alloc (.cells #[.string oNeg,.int .i64 a,p,.string nm,n0,n1,n2,n3,n4,n5,n6,n7,n8,n9,n10] 32))):=Hd bnew
  go_enter Tryz.func52,Tryz.ntmps52
  go_wp2
  go_ret
  exact ⟨ret_num HF.out.symm,HB.out⟩
 by_cases hDot:op=oDot
 ·subst hDot
  have HF:Hid (partsR oDot nm=1):=Hd (by unfold partsR;simp[bytes_toList])
  obtain ⟨n0,n1,n2,n3,n4,n5,n6,n7,n8,n9,n10,rfl,h1⟩:=hy
  clear h1
  unfold eV at *
  have HB:Hid (Below w.heap.size w (w.alloc (.cells #[.string oDot,.int .i64 a,p,.string nm,n0,n1,n2,n3,n4,n5,n6,n7,n8,n9,n10] 32))):=Hd bnew
  go_enter Tryz.func52,Tryz.ntmps52
  go_wp2
  go_ret
  exact ⟨ret_num HF.out.symm,HB.out⟩
 by_cases hIs:op=oIs
 ·subst hIs
  have HF:Hid (partsR oIs nm=1):=Hd (by unfold partsR;simp[bytes_toList])
  obtain ⟨n0,n1,n2,n3,n4,n5,n6,n7,n8,n9,n10,rfl,h1⟩:=hy
  clear h1
  unfold eV at *
  have HB:Hid (Below w.heap.size w (w.alloc (.cells #[.string oIs,.int .i64 a,p,.string nm,n0,n1,n2,n3,n4,n5,n6,n7,n8,n9,n10] 32))):=Hd bnew
  go_enter Tryz.func52,Tryz.ntmps52
  go_wp2
  go_ret
  exact ⟨ret_num HF.out.symm,HB.out⟩
 by_cases hValue:op=oValue
 ·subst hValue
  have HF:Hid (partsR oValue nm=0):=Hd (by unfold partsR;simp[bytes_toList])
  obtain ⟨n0,n1,n2,n3,n4,n5,n6,n7,n8,n9,n10,rfl,h1⟩:=hy
  clear h1
  unfold eV at *
  have HB:Hid (Below w.heap.size w (w.alloc (.cells #[.string oValue,.int .i64 a,p,.string nm,n0,n1,n2,n3,n4,n5,n6,n7,n8,n9,n10] 32))):=Hd bnew
  go_enter Tryz.func52,Tryz.ntmps52
  go_wp2
  go_ret
  exact ⟨ret_num HF.out.symm,HB.out⟩
 by_cases hSelf:op=oSelf
 ·subst hSelf
  have HF:Hid (partsR oSelf nm=0):=Hd (by unfold partsR;simp[bytes_toList])
  obtain ⟨n0,n1,n2,n3,n4,n5,n6,n7,n8,n9,n10,rfl,h1⟩:=hy
  clear h1
  unfold eV at *
  have HB:Hid (Below w.heap.size w (w.alloc (.cells #[.string oSelf,.int .i64 a,p,.string nm,n0,n1,n2,n3,n4,n5,n6,n7,n8,n9,n10] 32))):=Hd bnew
  go_enter Tryz.func52,Tryz.ntmps52
  go_wp2
  go_ret
  exact ⟨ret_num HF.out.symm,HB.out⟩
 by_cases hField:op=oField
 ·subst hField
  have HF:Hid (partsR oField nm=0):=Hd (by unfold partsR;simp[bytes_toList])
  obtain ⟨n0,n1,n2,n3,n4,n5,n6,n7,n8,n9,n10,rfl,h1⟩:=hy
  clear h1
  unfold eV at *
  have HB:Hid (Below w.heap.size w (w.alloc (.cells #[.string oField,.int .i64 a,p,.string nm,n0,n1,n2,n3,n4,n5,n6,n7,n8,n9,n10] 32))):=Hd bnew
  go_enter Tryz.func52,Tryz.ntmps52
  go_wp2
  go_ret
  exact ⟨ret_num HF.out.symm,HB.out⟩
 by_cases hList:op=oList
 ·subst hList
  have HF:Hid (partsR oList nm=9):=Hd (by unfold partsR;simp[bytes_toList])
  obtain ⟨n0,n1,n2,n3,n4,n5,n6,n7,n8,n9,n10,rfl,h1⟩:=hy
  clear h1
  unfold eV at *
  have HB:Hid (Below w.heap.size w (w.alloc (.cells #[.string oList,.int .i64 a,p,.string nm,n0,n1,n2,n3,n4,n5,n6,n7,n8,n9,n10] 32))):=Hd bnew
  go_enter Tryz.func52,Tryz.ntmps52
  go_wp2
  go_ret
  exact ⟨ret_num HF.out.symm,HB.out⟩
 by_cases hCall:op=oCall
 ·subst hCall
  have HT:=Hd (fun (W:World)=>rtakes_any nm W)
  have HF:Hid (partsR oCall nm=if 0<takesR nm then takesR nm else -1):=Hd (by unfold partsR;simp[bytes_toList])
  obtain ⟨n0,n1,n2,n3,n4,n5,n6,n7,n8,n9,n10,rfl,h1⟩:=hy
  clear h1
  unfold eV at *
  have HB:Hid (Below w.heap.size w (w.alloc (.cells #[.string oCall,.int .i64 a,p,.string nm,n0,n1,n2,n3,n4,n5,n6,n7,n8,n9,n10] 32))):=Hd bnew
  generalize takesR nm=n at *
  go_enter Tryz.func52,Tryz.ntmps52
  go_wp2_with fail
  refine (HT.out _).mono ?_
  rintro e w1 ⟨rfl,hb1⟩
  by_cases h0:0<n
  ·go_wp2
   go_ret
   exact ⟨ret_num (by rw[HF.out,if_pos (by omega)]),HB.out.trans (hb1.mono HB.out.size)⟩
  ·go_wp2
   go_ret
   exact ⟨ret_num (by rw[HF.out,if_neg (by omega)]),HB.out.trans (hb1.mono HB.out.size)⟩
 have eOr:=neS [111,114] hOr
 have eAnd:=neS [97,110,100] hAnd
 have eEq:=neS [61] hEq
 have eNe:=neS [33,61] hNe
 have eLt:=neS [60] hLt
 have eLe:=neS [60,61] hLe
 have eGt:=neS [62] hGt
 have eGe:=neS [62,61] hGe
 have eIn:=neS [105,110] hIn
 have eAdd:=neS [43] hAdd
 have eSub:=neS [45] hSub
 have eMul:=neS [42] hMul
 have eDiv:=neS [47] hDiv
 have eRem:=neS [37] hRem
 have eAt:=neS [97,116] hAt
 have eNot:=neS [110,111,116] hNot
 have eNeg:=neS [110,101,103] hNeg
 have eDot:=neS [100,111,116] hDot
 have eIs:=neS [105,115] hIs
 have eValue:=neS [118,97,108,117,101] hValue
 have eSelf:=neS [115,101,108,102] hSelf
 have eField:=neS [102,105,101,108,100] hField
 have eList:=neS [108,105,115,116] hList
 have eCall:=neS [99,97,108,108] hCall
 have HF:Hid (partsR op nm=-1):=Hd (by
  have fOr:=beq_eq_false_iff_ne.1 eOr
  have fAnd:=beq_eq_false_iff_ne.1 eAnd
  have fEq:=beq_eq_false_iff_ne.1 eEq
  have fNe:=beq_eq_false_iff_ne.1 eNe
  have fLt:=beq_eq_false_iff_ne.1 eLt
  have fLe:=beq_eq_false_iff_ne.1 eLe
  have fGt:=beq_eq_false_iff_ne.1 eGt
  have fGe:=beq_eq_false_iff_ne.1 eGe
  have fIn:=beq_eq_false_iff_ne.1 eIn
  have fAdd:=beq_eq_false_iff_ne.1 eAdd
  have fSub:=beq_eq_false_iff_ne.1 eSub
  have fMul:=beq_eq_false_iff_ne.1 eMul
  have fDiv:=beq_eq_false_iff_ne.1 eDiv
  have fRem:=beq_eq_false_iff_ne.1 eRem
  have fAt:=beq_eq_false_iff_ne.1 eAt
  have fNot:=beq_eq_false_iff_ne.1 eNot
  have fNeg:=beq_eq_false_iff_ne.1 eNeg
  have fDot:=beq_eq_false_iff_ne.1 eDot
  have fIs:=beq_eq_false_iff_ne.1 eIs
  have fValue:=beq_eq_false_iff_ne.1 eValue
  have fSelf:=beq_eq_false_iff_ne.1 eSelf
  have fField:=beq_eq_false_iff_ne.1 eField
  have fList:=beq_eq_false_iff_ne.1 eList
  have fCall:=beq_eq_false_iff_ne.1 eCall
  simp only[bytes_toList]at fOr fAnd fEq fNe fLt fLe fGt fGe fIn fAdd fSub fMul fDiv fRem fAt fNot fNeg fDot fIs fValue fSelf fField fList fCall
  unfold partsR
  simp[bytes_toList,fOr,fAnd,fEq,fNe,fLt,fLe,fGt,fGe,fIn,fAdd,fSub,fMul,fDiv,fRem,fAt,fNot,fNeg,fDot,fIs,fValue,fSelf,fField,fList,fCall])
 clear hOr hAnd hEq hNe hLt hLe hGt hGe hIn hAdd hSub hMul hDiv hRem hAt hNot hNeg hDot hIs hValue hSelf hField hList hCall
 obtain ⟨n0,n1,n2,n3,n4,n5,n6,n7,n8,n9,n10,rfl,h1⟩:=hy
 clear h1
 unfold eV at *
 have HB:Hid (Below w.heap.size w (w.alloc (.cells #[.string op,.int .i64 a,p,.string nm,n0,n1,n2,n3,n4,n5,n6,n7,n8,n9,n10] 32))):=Hd bnew
 go_enter Tryz.func52,Tryz.ntmps52
 go_wp2
 go_ret
 exact ⟨ret_num HF.out.symm,HB.out⟩
end Go.Proofs.YtbemeapjeipjlaaGreatDoor
