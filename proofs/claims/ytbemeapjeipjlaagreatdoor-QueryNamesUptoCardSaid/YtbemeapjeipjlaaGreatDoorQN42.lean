/- Walks of the reference's texts: digits, Dec, Float. -/
import Derived.Test.YtbemeapjeipjlaaGreatDoorQN38
import Derived.Test.YtbemeapjeipjlaaGreatDoorQN27
import Derived.Test.YtbemeapjeipjlaaGreatDoorQN41
set_option linter.unusedVariables false
set_option linter.unusedSimpArgs false
namespace Go.Proofs.YtbemeapjeipjlaaGreatDoor
open Go Go.RowKit
set_option maxRecDepth 100000
set_option maxHeartbeats 8000000
theorem digit_at (n j:Nat):((n:Int) / 2 ^ (4*j)).tmod 16=((n / 16 ^ j % 16:Nat):Int):=by
 rw[Int.pow_mul,show ((2:Int) ^ 4)=16 from rfl]
 rw[show ((16:Int) ^ j)=((16 ^ j:Nat):Int) by simp]
 rw[Int.tmod_eq_emod_of_nonneg (Int.ediv_nonneg (Int.natCast_nonneg _) (Int.natCast_nonneg _))]
 norm_cast
theorem digits_next (n m k:Nat) (hk:k<m) (l:List UInt8) (h:n / 16 ^ (m-k) % 16 ^ k≠0→∃x∈l,x≠48) (x:UInt8) (hx:n / 16 ^ (m-1-k) % 16≠0→x≠48):n / 16 ^ (m-(k+1)) % 16 ^ (k+1)≠0→∃y∈l++[x],y≠48:=by
 intro h1
 rw[show m-(k+1)=m-1-k by omega]at h1
 have e:n / 16 ^ (m-k)=n / 16 ^ (m-1-k) / 16:=by rw[Nat.div_div_eq_div_mul,show m-k=m-1-k+1 by omega,Nat.pow_succ]
 rw[e]at h
 generalize n / 16 ^ (m-1-k)=u at *
 by_cases h0:u % 16=0
 ·have:u / 16 % 16 ^ k≠0:=by
   intro h2
   apply h1
   rw[Nat.pow_succ,Nat.mul_comm,Nat.mod_mul,h0,h2]
  obtain ⟨y,hy,hy2⟩:=h this
  exact ⟨y,by simp[hy],hy2⟩
 ·exact ⟨x,by simp,hx h0⟩
theorem hexD_at (q:Nat) (hq:q<16):∃x:UInt8,(∀h,(⟨#[48,49,50,51,52,53,54,55,56,57,97,98,99,100,101,102]⟩:ByteArray)[q]'h=x)∧(q≠0→x≠48):=by
 refine ⟨(#[48,49,50,51,52,53,54,55,56,57,97,98,99,100,101,102]:Array UInt8)[q]'hq,fun _=>rfl,?_⟩
 revert q
 decide
theorem digits_any (n m:Nat) (hm:m≤16) (hm1:1≤m) (w:World):Calls Tryz.prog 123 #[.int .u64 n,.int .i64 m] w (fun e w'=>∃l:List UInt8,e=.returned (.string ⟨l.toArray⟩)∧l.length=m∧(n % 16 ^ m≠0→∃x∈l,x≠48)∧Below w.heap.size w w'):=by
 obtain ⟨i0,hi0,hz0,hz1,hz2⟩:=info_parts Tryz.infoByte
 have hw0:IntKind.i64.wrap ((m:Int)-1)=(m:Int)-1:=by rw[IntKind.wrap_i64];omega
 go_enter Tryz.func123,Tryz.ntmps123
 go_wp2
 go_loopw [5,6] (fun v jx wr=>∃(k:Nat) (l:List UInt8),jx=.int .i64 ((m:Int)-1-k)∧k≤m∧Below w.heap.size w wr∧l.length=k∧wr.ownsRow w.heap.size 5 1 v k (bvals l)∧Hid ((n / 16 ^ (m-k)) % 16 ^ k≠0→∃x∈l,x≠48)) (fun _ jx _=>(intOf jx+1).toNat)
 case atStart =>
  refine ⟨0,[],by simp,by omega,Below.refl _ _,rfl,?_,Hd (by simp[Nat.mod_one])⟩
  exact World.ownsRow_nil _ _ _ _
 case round =>
  obtain ⟨k,l,rfl,hk,hb,hl,ho,HD⟩:=hrel
  by_cases hlt:k<m
  ·have hq:=digit_at n (m-1-k)
   have hpw:(0:Nat)<16 ^ (m-1-k):=Nat.pow_pos (by omega)
   have HD2:=digits_next n m k hlt l HD.out
   have hq16:n / 16 ^ (m-1-k) % 16<16:=Nat.mod_lt _ (by decide)
   generalize n / 16 ^ (m-1-k) % 16=q at *
   obtain ⟨x,hx,hx0⟩:=hexD_at q hq16
   have hx':∀h,(⟨#[48,49,50,51,52,53,54,55,56,57,97,98,99,100,101,102]⟩:ByteArray)[q]'h=x:=hx
   obtain ⟨A1,c1,rfl⟩:∃A1 c1,u5=.slice A1 k c1:=by
    rcases ho.2 with ⟨rfl,rfl⟩|⟨g,cap,cur,rfl,_⟩
    ·exact ⟨_,_,rfl⟩
    ·exact ⟨_,_,rfl⟩
   have hwk:IntKind.i64.wrap ((m:Int)-1-k-1)=(m:Int)-1-k-1:=by rw[IntKind.wrap_i64];omega
   have hba:Below wr.heap.size wr (wr.alloc (.cells #[.int .u8 (x.toNat:Int)] 5)):=bnew
   have hz:=hb.size
   have hz3:w.heap.size≤(wr.alloc (.cells #[.int .u8 (x.toNat:Int)] 5)).heap.size:=by simp;omega
   have ho2:=ownsRow_below ho hba
   have hHX:=Hd (hx0)
   clear hx hx0 HD hpw
   go_wp2_with (at_builtin;go_must (refine wpList_append_lies _ rfl (.tmp 13) (.tmp 20) 24 rfl w.heap.size 5 i0 _ 1 1 Tryz.underlying24 hi0 hz0 hz1 hz2 rfl (by omega) (.slice A1 k c1) k (bvals l) rfl ho2 ⟨wr.heap.size,0,none⟩ 1 1 [.int .u8 (x.toNat:Int)] rfl rfl (news_at rfl) (by simp[Value.oneCell']) (by omega) (by simp only[maxLen];omega) (by omega) hz3 _ rfl ?_);intro g cap w2 hown2 hg2 hat hlt2)
   refine ⟨⟨k+1,l++[x],by simp;omega,hlt,(hb.trans (hba.mono hz)).grown hg2 hz3 (fun j hj=>(ho.lt j hj).1),by simp[hl],by simpa [bvals] using hown2,Hd (HD2 x hHX.out)⟩,?_⟩
   simp[intOf]
   omega
  ·obtain rfl:k=m:=by omega
   subst hl
   obtain ⟨A2,c2,rfl,hA2,hB2⟩:=bytes_of_row ho
   have kc:=conv_row (c:=c2) hB2
   clear ho hB2
   go_wp2
   go_ret
   exact ⟨l,rfl,rfl,by have:=HD.out;simpa using this,hb⟩
def StrPost (k:Nat) (w:World) (e:Ending) (w':World):Prop:=∃s:ByteArray,e=.returned (.string s)∧s.size≤k∧1≤s.size∧Below w.heap.size w w'
theorem dec_small (n:Nat) (w:World) (hn:n<10):Calls Tryz.prog 124 #[.int .u64 n] w (StrPost 1 w):=by
 have kc:(convert 24 9 (.slice (some ⟨w.heap.size,0,none⟩) 1 1)).run Tryz.prog (w.alloc (.cells #[.int .u8 (48+(n:Int))] 5))=.ok (.string ⟨#[UInt8.ofNat (48+n)]⟩) (w.alloc (.cells #[.int .u8 (48+(n:Int))] 5)):=by
  refine conv_row (l:=[UInt8.ofNat (48+n)]) (S:=fun _=>True) (.inr ⟨_,0,rfl,trivial,fun i x hi=>?_⟩)
  cases i with
  | zero =>
   have:UInt8.ofNat (48+n)=x:=by simpa using hi
   subst this
   have h2:(UInt8.ofNat (48+n)).toNat=48+n:=by simp;omega
   rw[h2]
   simp[go_sem]
  | succ i=>simp at hi
 go_enter Tryz.func124,Tryz.ntmps124
 go_wp2
 go_ret
 exact ⟨_,rfl,by show 1≤1;omega,by show 1≤1;omega,bnew⟩
theorem dec_any (k:Nat):∀(n:Nat) (w:World),n<10 ^ (k+1)→n≤18446744073709551615→k≤19→Calls Tryz.prog 124 #[.int .u64 n] w (StrPost (2 ^ k) w):=by
 induction k with
 | zero=>intro n w hn _ _;exact dec_small n w (by simpa using hn)
 | succ k ih =>
  intro n w hn h6 hk
  have hp:2 ^ (k+1)=2 ^ k+2 ^ k:=by rw[Nat.pow_succ];omega
  have hp1:1≤2 ^ k:=Nat.one_le_two_pow
  have hp2:2 ^ k≤2 ^ 19:=Nat.pow_le_pow_right (by omega) (by omega)
  by_cases h10:n<10
  ·refine (dec_small n w h10).mono ?_
   rintro e w1 ⟨s,rfl,h1,h2,h3⟩
   exact ⟨s,rfl,by omega,h2,h3⟩
  ·have hd:IntKind.u64.wrap ((n:Int) / 10)=(n:Int) / 10:=by rw[IntKind.wrap_u64];omega
   have hr:(n:Int).tmod 10=(n:Int) % 10:=Int.tmod_eq_emod_of_nonneg (Int.natCast_nonneg _)
   have h64:n<10 ^ (k+1)*10:=by rw[←Nat.pow_succ];exact hn
   have hpk:10≤10 ^ (k+1):=by rw[Nat.pow_succ];have:1≤10 ^ k:=Nat.pow_pos (by omega);omega
   have H1:Hid (∀W:World,Calls Tryz.prog 124 #[.int .u64 ((n:Int) / 10)] W (StrPost (2 ^ k) W)):=Hd (fun W=>by rw[show (n:Int) / 10=((n / 10:Nat):Int) by norm_cast];exact ih (n / 10) W (by omega) (by omega) (by omega))
   have H2:Hid (∀W:World,Calls Tryz.prog 124 #[.int .u64 ((n:Int) % 10)] W (StrPost (2 ^ k) W)):=Hd (fun W=>by rw[show (n:Int) % 10=((n % 10:Nat):Int) by norm_cast];exact ih (n % 10) W (by omega) (by omega) (by omega))
   clear hn h64 hpk
   go_enter Tryz.func124,Tryz.ntmps124
   go_wp2_with fail
   refine (H1.out _).mono ?_
   rintro e w1 ⟨s1,rfl,a1,a2,a3⟩
   go_wp2_with fail
   refine (H2.out _).mono ?_
   rintro e w2 ⟨s2,rfl,b1,b2,b3⟩
   go_wp2
   go_ret
   exact ⟨_,rfl,by rw[ByteArray.size_append];omega,by rw[ByteArray.size_append];omega,a3.trans (b3.mono a3.size)⟩
theorem str_size (a:Array UInt8):(⟨a⟩:ByteArray).size=a.size:=rfl
theorem trim_keeps {s:ByteArray} {x:UInt8} (hx:x∈s.data.toList) (hx0:x≠48) (hs:0<s.size) (hl:(s[s.size-1]'(by omega)).toNat=48):x∈(s.extract 0 (s.size-1)).data.toList:=by
 have h48:s[s.size-1]'(by omega)=48:=UInt8.toNat_inj.1 hl
 obtain ⟨i,hi,rfl⟩:=List.getElem_of_mem hx
 have hi':i<s.size:=hi
 have hne:i≠s.size-1:=by
  intro e
  subst e
  exact hx0 h48
 have hlt:i<(s.extract 0 (s.size-1)).data.toList.length:=by
  rw[ByteArray.data_extract]
  simp
  have:s.data.size=s.size:=rfl
  omega
 have:(s.extract 0 (s.size-1)).data.toList[i]'hlt=s.data.toList[i]'hi:=by
  simp[ByteArray.data_extract]
 rw[←this]
 exact List.getElem_mem hlt
def strLen (v:Value):Nat:=match v with | .string s=>s.size|_=>0
theorem float_text (f:Nat) (w:World):Calls Tryz.prog 82 #[.float .f64 f] w (StrPost 2000000 w):=by
 have k0:=fun (w:World)=>run_f64bits f w
 have HDG:=Hd (fun (W:World)=>digits_any f 16 (by omega) (by omega) W)
 have HD13:Hid (∀(z:Int) (W:World),0<z→z<4503599627370496→Calls Tryz.prog 123 #[.int .u64 z,.int .i64 13] W (fun e w'=>∃s:ByteArray,e=.returned (.string s)∧s.size≤13∧(∃x∈s.data.toList,x≠48)∧Below W.heap.size W w')):=Hd (fun z W h1 h2=>by
  obtain ⟨n,rfl⟩:∃n:Nat,z=n:=⟨z.toNat,by omega⟩
  refine (digits_any n 13 (by omega) (by omega) W).mono ?_
  rintro e w1 ⟨l,rfl,hl,hx,hb⟩
  exact ⟨_,rfl,by rw[str_size];simp;omega,by simpa using hx (by rw[show 16 ^ 13=4503599627370496 from by decide];omega),hb⟩)
 have HDC:Hid (∀(z:Int) (W:World),0≤z→z≤18446744073709551615→Calls Tryz.prog 124 #[.int .u64 z] W (StrPost 524288 W)):=Hd (fun z W h1 h2=>by
  obtain ⟨n,rfl⟩:∃n:Nat,z=n:=⟨z.toNat,by omega⟩
  exact dec_any 19 n W (by rw[show 10 ^ (19+1)=100000000000000000000 from by decide];omega) (by omega) (by omega))
 go_enter Tryz.func82,Tryz.ntmps82
 go_wp2_with fail
 ·refine (HDG.out _).mono ?_
  rintro e w1 ⟨l,rfl,hl,-,hb1⟩
  go_wp2
  go_ret
  exact ⟨_,rfl,by simp[ByteArray.size_append,str_size];omega,by simp[ByteArray.size_append,str_size];try omega,hb1⟩
 ·go_ret
  exact ⟨_,rfl,by decide,by decide,Below.refl _ _⟩
 ·go_ret
  exact ⟨_,rfl,by decide,by decide,Below.refl _ _⟩
 ·go_ret
  exact ⟨_,rfl,by decide,by decide,Below.refl _ _⟩
 ·have hm0:¬(f:Int) % 4503599627370496=0:=by
   have h:=(‹((f:Int) % 4503599627370496==0)=false›)
   simpa using h
  go_loopw [5,6] (fun ve vm wr=>∃(k:Nat) (z:Int),ve=.int .i64 (1-k)∧vm=.int .u64 z∧w=wr∧Hid (2 ^ k≤z.toNat)∧1≤z∧z<9007199254740992∧k≤53) (fun _ vm _=>(9007199254740992-intOf vm).toNat)
  case atStart=>exact ⟨0,_,rfl,rfl,rfl,Hd (by simp;omega),by omega,by omega,by omega⟩
  case round =>
   obtain ⟨k,z,rfl,rfl,rfl,HK,hz1,hz2,hk⟩:=hrel
   by_cases hlt:z<4503599627370496
   ·have hw2:IntKind.u64.wrap (z*2)=z*2:=by rw[IntKind.wrap_u64];omega
    have hwk:IntKind.i64.wrap (1-(k:Int)-1)=1-(k:Int)-1:=by rw[IntKind.wrap_i64];omega
    have hk52:k<52:=(Nat.pow_lt_pow_iff_right (by decide:1<2)).1 (by have h1:=HK.out;have h2:2 ^ 52=4503599627370496:=(by decide);omega)
    have HK2:Hid (2 ^ (k+1)≤(z*2).toNat):=Hd (by have h1:=HK.out;rw[Nat.pow_succ];omega)
    go_wp2
    refine ⟨⟨k+1,z*2,by simp;omega,rfl,trivial,HK2,by omega,by omega,by omega⟩,?_⟩
    simp[intOf]
    omega
   ·have hwm:IntKind.u64.wrap (z-4503599627370496)=z-4503599627370496:=by rw[IntKind.wrap_u64];omega
    go_wp2_with fail
    ·refine (HD13.out _ _ (by omega) (by omega)).mono ?_
     rintro e w1 ⟨s,rfl,hs13,hsx,hb1⟩
     go_wp2_with fail
     go_loopw [8] (fun v wr=>∃s:ByteArray,v=.string s∧s.size≤13∧Hid (∃x∈s.data.toList,x≠48)∧w1=wr) (fun v _=>strLen v)
     case atStart=>exact ⟨s,rfl,hs13,Hd hsx,rfl⟩
     case round =>
      obtain ⟨s,rfl,hs13,HX,rfl⟩:=hrel
      have hs0:0<s.size:=by
       obtain ⟨x,hx,_⟩:=HX.out
       have:=List.length_pos_of_mem hx
       exact this
      by_cases h48:(s[s.size-1]'(by omega)).toNat=48
      ·have HX2:Hid (∃x∈(s.extract 0 (s.size-1)).data.toList,x≠48):=Hd (by
        obtain ⟨x,hx,hx0⟩:=HX.out
        exact ⟨x,trim_keeps hx hx0 hs0 h48,hx0⟩)
       have hsz:(s.extract 0 (s.size-1)).size=s.size-1:=by simp[ByteArray.size_extract];try omega
       go_wp2
       refine ⟨⟨s.extract 0 (s.size-1),by first|rfl|simp,by omega,HX2,by first|rfl|trivial⟩,?_⟩
       simp[strLen]
       omega
      ·go_wp2_with fail
       ·refine (HDC.out _ _ (by omega) (by omega)).mono ?_
        rintro e w9 ⟨s9,rfl,q1,q2,q3⟩
        go_wp2
        go_ret
        exact ⟨_,rfl,by simp[ByteArray.size_append,str_size];omega,by simp[ByteArray.size_append,str_size];omega,hb1.trans (q3.mono hb1.size)⟩
    ·refine (HDC.out _ _ (by omega) (by omega)).mono ?_
     rintro e w9 ⟨s9,rfl,q1,q2,q3⟩
     go_wp2
     go_ret
     exact ⟨_,rfl,by simp[ByteArray.size_append,str_size];omega,by simp[ByteArray.size_append,str_size];omega,q3⟩
 ·refine (HD13.out _ _ (by omega) (by omega)).mono ?_
  rintro e w1 ⟨s,rfl,hs13,hsx,hb1⟩
  go_wp2_with fail
  go_loopw [8] (fun v wr=>∃s:ByteArray,v=.string s∧s.size≤13∧Hid (∃x∈s.data.toList,x≠48)∧w1=wr) (fun v _=>strLen v)
  case atStart=>exact ⟨s,rfl,hs13,Hd hsx,rfl⟩
  case round =>
   obtain ⟨s,rfl,hs13,HX,rfl⟩:=hrel
   have hs0:0<s.size:=by
    obtain ⟨x,hx,_⟩:=HX.out
    have:=List.length_pos_of_mem hx
    exact this
   by_cases h48:(s[s.size-1]'(by omega)).toNat=48
   ·have HX2:Hid (∃x∈(s.extract 0 (s.size-1)).data.toList,x≠48):=Hd (by
     obtain ⟨x,hx,hx0⟩:=HX.out
     exact ⟨x,trim_keeps hx hx0 hs0 h48,hx0⟩)
    have hsz:(s.extract 0 (s.size-1)).size=s.size-1:=by simp[ByteArray.size_extract];try omega
    go_wp2
    refine ⟨⟨s.extract 0 (s.size-1),by first|rfl|simp,by omega,HX2,by first|rfl|trivial⟩,?_⟩
    simp[strLen]
    omega
   ·go_wp2_with fail
    ·refine (HDC.out _ _ (by omega) (by omega)).mono ?_
     rintro e w9 ⟨s9,rfl,q1,q2,q3⟩
     go_wp2
     go_ret
     exact ⟨_,rfl,by simp[ByteArray.size_append,str_size];omega,by simp[ByteArray.size_append,str_size];omega,hb1.trans (q3.mono hb1.size)⟩
    ·refine (HDC.out _ _ (by omega) (by omega)).mono ?_
     rintro e w9 ⟨s9,rfl,q1,q2,q3⟩
     go_wp2
     go_ret
     exact ⟨_,rfl,by simp[ByteArray.size_append,str_size];omega,by simp[ByteArray.size_append,str_size];omega,hb1.trans (q3.mono hb1.size)⟩
    ·refine (HDC.out _ _ (by omega) (by omega)).mono ?_
     rintro e w9 ⟨s9,rfl,q1,q2,q3⟩
     go_wp2
     go_ret
     exact ⟨_,rfl,by simp[ByteArray.size_append,str_size];omega,by simp[ByteArray.size_append,str_size];omega,hb1.trans (q3.mono hb1.size)⟩
    ·refine (HDC.out _ _ (by omega) (by omega)).mono ?_
     rintro e w9 ⟨s9,rfl,q1,q2,q3⟩
     go_wp2
     go_ret
     exact ⟨_,rfl,by simp[ByteArray.size_append,str_size];omega,by simp[ByteArray.size_append,str_size];omega,hb1.trans (q3.mono hb1.size)⟩
 ·refine (HDC.out _ _ (by omega) (by omega)).mono ?_
  rintro e w9 ⟨s9,rfl,q1,q2,q3⟩
  go_wp2
  go_ret
  exact ⟨_,rfl,by simp[ByteArray.size_append,str_size];omega,by simp[ByteArray.size_append,str_size];omega,q3⟩
 ·refine (HDC.out _ _ (by omega) (by omega)).mono ?_
  rintro e w9 ⟨s9,rfl,q1,q2,q3⟩
  go_wp2
  go_ret
  exact ⟨_,rfl,by simp[ByteArray.size_append,str_size];omega,by simp[ByteArray.size_append,str_size];omega,q3⟩
 ·refine (HDC.out _ _ (by omega) (by omega)).mono ?_
  rintro e w9 ⟨s9,rfl,q1,q2,q3⟩
  go_wp2
  go_ret
  exact ⟨_,rfl,by simp[ByteArray.size_append,str_size];omega,by simp[ByteArray.size_append,str_size];omega,q3⟩
 ·refine (HDC.out _ _ (by omega) (by omega)).mono ?_
  rintro e w9 ⟨s9,rfl,q1,q2,q3⟩
  go_wp2
  go_ret
  exact ⟨_,rfl,by simp[ByteArray.size_append,str_size];omega,by simp[ByteArray.size_append,str_size];omega,q3⟩
 ·go_ret
  exact ⟨_,rfl,by decide,by decide,Below.refl _ _⟩
 ·have hm0:¬(f:Int) % 4503599627370496=0:=by
   have h:=(‹((f:Int) % 4503599627370496==0)=false›)
   simpa using h
  go_loopw [5,6] (fun ve vm wr=>∃(k:Nat) (z:Int),ve=.int .i64 (1-k)∧vm=.int .u64 z∧w=wr∧Hid (2 ^ k≤z.toNat)∧1≤z∧z<9007199254740992∧k≤53) (fun _ vm _=>(9007199254740992-intOf vm).toNat)
  case atStart=>exact ⟨0,_,rfl,rfl,rfl,Hd (by simp;omega),by omega,by omega,by omega⟩
  case round =>
   obtain ⟨k,z,rfl,rfl,rfl,HK,hz1,hz2,hk⟩:=hrel
   by_cases hlt:z<4503599627370496
   ·have hw2:IntKind.u64.wrap (z*2)=z*2:=by rw[IntKind.wrap_u64];omega
    have hwk:IntKind.i64.wrap (1-(k:Int)-1)=1-(k:Int)-1:=by rw[IntKind.wrap_i64];omega
    have hk52:k<52:=(Nat.pow_lt_pow_iff_right (by decide:1<2)).1 (by have h1:=HK.out;have h2:2 ^ 52=4503599627370496:=(by decide);omega)
    have HK2:Hid (2 ^ (k+1)≤(z*2).toNat):=Hd (by have h1:=HK.out;rw[Nat.pow_succ];omega)
    go_wp2
    refine ⟨⟨k+1,z*2,by simp;omega,rfl,trivial,HK2,by omega,by omega,by omega⟩,?_⟩
    simp[intOf]
    omega
   ·have hwm:IntKind.u64.wrap (z-4503599627370496)=z-4503599627370496:=by rw[IntKind.wrap_u64];omega
    go_wp2_with fail
    ·refine (HD13.out _ _ (by omega) (by omega)).mono ?_
     rintro e w1 ⟨s,rfl,hs13,hsx,hb1⟩
     go_wp2_with fail
     go_loopw [8] (fun v wr=>∃s:ByteArray,v=.string s∧s.size≤13∧Hid (∃x∈s.data.toList,x≠48)∧w1=wr) (fun v _=>strLen v)
     case atStart=>exact ⟨s,rfl,hs13,Hd hsx,rfl⟩
     case round =>
      obtain ⟨s,rfl,hs13,HX,rfl⟩:=hrel
      have hs0:0<s.size:=by
       obtain ⟨x,hx,_⟩:=HX.out
       have:=List.length_pos_of_mem hx
       exact this
      by_cases h48:(s[s.size-1]'(by omega)).toNat=48
      ·have HX2:Hid (∃x∈(s.extract 0 (s.size-1)).data.toList,x≠48):=Hd (by
        obtain ⟨x,hx,hx0⟩:=HX.out
        exact ⟨x,trim_keeps hx hx0 hs0 h48,hx0⟩)
       have hsz:(s.extract 0 (s.size-1)).size=s.size-1:=by simp[ByteArray.size_extract];try omega
       go_wp2
       refine ⟨⟨s.extract 0 (s.size-1),by first|rfl|simp,by omega,HX2,by first|rfl|trivial⟩,?_⟩
       simp[strLen]
       omega
      ·go_wp2_with fail
       ·refine (HDC.out _ _ (by omega) (by omega)).mono ?_
        rintro e w9 ⟨s9,rfl,q1,q2,q3⟩
        go_wp2
        go_ret
        exact ⟨_,rfl,by simp[ByteArray.size_append,str_size];omega,by simp[ByteArray.size_append,str_size];omega,hb1.trans (q3.mono hb1.size)⟩
    ·refine (HDC.out _ _ (by omega) (by omega)).mono ?_
     rintro e w9 ⟨s9,rfl,q1,q2,q3⟩
     go_wp2
     go_ret
     exact ⟨_,rfl,by simp[ByteArray.size_append,str_size];omega,by simp[ByteArray.size_append,str_size];omega,q3⟩
 ·refine (HD13.out _ _ (by omega) (by omega)).mono ?_
  rintro e w1 ⟨s,rfl,hs13,hsx,hb1⟩
  go_wp2_with fail
  go_loopw [8] (fun v wr=>∃s:ByteArray,v=.string s∧s.size≤13∧Hid (∃x∈s.data.toList,x≠48)∧w1=wr) (fun v _=>strLen v)
  case atStart=>exact ⟨s,rfl,hs13,Hd hsx,rfl⟩
  case round =>
   obtain ⟨s,rfl,hs13,HX,rfl⟩:=hrel
   have hs0:0<s.size:=by
    obtain ⟨x,hx,_⟩:=HX.out
    have:=List.length_pos_of_mem hx
    exact this
   by_cases h48:(s[s.size-1]'(by omega)).toNat=48
   ·have HX2:Hid (∃x∈(s.extract 0 (s.size-1)).data.toList,x≠48):=Hd (by
     obtain ⟨x,hx,hx0⟩:=HX.out
     exact ⟨x,trim_keeps hx hx0 hs0 h48,hx0⟩)
    have hsz:(s.extract 0 (s.size-1)).size=s.size-1:=by simp[ByteArray.size_extract];try omega
    go_wp2
    refine ⟨⟨s.extract 0 (s.size-1),by first|rfl|simp,by omega,HX2,by first|rfl|trivial⟩,?_⟩
    simp[strLen]
    omega
   ·go_wp2_with fail
    ·refine (HDC.out _ _ (by omega) (by omega)).mono ?_
     rintro e w9 ⟨s9,rfl,q1,q2,q3⟩
     go_wp2
     go_ret
     exact ⟨_,rfl,by simp[ByteArray.size_append,str_size];omega,by simp[ByteArray.size_append,str_size];omega,hb1.trans (q3.mono hb1.size)⟩
    ·refine (HDC.out _ _ (by omega) (by omega)).mono ?_
     rintro e w9 ⟨s9,rfl,q1,q2,q3⟩
     go_wp2
     go_ret
     exact ⟨_,rfl,by simp[ByteArray.size_append,str_size];omega,by simp[ByteArray.size_append,str_size];omega,hb1.trans (q3.mono hb1.size)⟩
    ·refine (HDC.out _ _ (by omega) (by omega)).mono ?_
     rintro e w9 ⟨s9,rfl,q1,q2,q3⟩
     go_wp2
     go_ret
     exact ⟨_,rfl,by simp[ByteArray.size_append,str_size];omega,by simp[ByteArray.size_append,str_size];omega,hb1.trans (q3.mono hb1.size)⟩
    ·refine (HDC.out _ _ (by omega) (by omega)).mono ?_
     rintro e w9 ⟨s9,rfl,q1,q2,q3⟩
     go_wp2
     go_ret
     exact ⟨_,rfl,by simp[ByteArray.size_append,str_size];omega,by simp[ByteArray.size_append,str_size];omega,hb1.trans (q3.mono hb1.size)⟩
 ·refine (HDC.out _ _ (by omega) (by omega)).mono ?_
  rintro e w9 ⟨s9,rfl,q1,q2,q3⟩
  go_wp2
  go_ret
  exact ⟨_,rfl,by simp[ByteArray.size_append,str_size];omega,by simp[ByteArray.size_append,str_size];omega,q3⟩
 ·refine (HDC.out _ _ (by omega) (by omega)).mono ?_
  rintro e w9 ⟨s9,rfl,q1,q2,q3⟩
  go_wp2
  go_ret
  exact ⟨_,rfl,by simp[ByteArray.size_append,str_size];omega,by simp[ByteArray.size_append,str_size];omega,q3⟩
 ·refine (HDC.out _ _ (by omega) (by omega)).mono ?_
  rintro e w9 ⟨s9,rfl,q1,q2,q3⟩
  go_wp2
  go_ret
  exact ⟨_,rfl,by simp[ByteArray.size_append,str_size];omega,by simp[ByteArray.size_append,str_size];omega,q3⟩
 ·refine (HDC.out _ _ (by omega) (by omega)).mono ?_
  rintro e w9 ⟨s9,rfl,q1,q2,q3⟩
  go_wp2
  go_ret
  exact ⟨_,rfl,by simp[ByteArray.size_append,str_size];omega,by simp[ByteArray.size_append,str_size];omega,q3⟩
def SomeB (w:World) (e:Ending) (w':World):Prop:=∃b:Bool,e=.returned (.bool b)∧Below w.heap.size w w'
theorem rliteral_any (t:Tm) (x:List Value) (w:World) (hx:RdT w w.heap.size t x):Calls Tryz.prog 53 #[termOf x] w (SomeB w):=by
 have HC:=Hd (fun (W:World) (hW:Below w.heap.size w W)=>rcheck_any t x W (RdT.more hW.size _ _ (RdT.below hx hW)))
 have HF:=Hd (fun (f:Nat) (W:World)=>float_text f W)
 generalize builtV t=u at HC
 obtain ⟨k,b,i,f,s,bs,r,l,d,c,v⟩:=t
 obtain ⟨Ab,cb,Al,cl,Ad,cd,rfl,hk,hi,-⟩:=hx
 unfold termOf at *
 have HB:Hid (Below w.heap.size w (w.alloc (.cells #[.int .i64 k,.bool b,.int .i64 i,.float .f64 f,.string s,.slice Ab bs.length cb,.int .u64 r,.slice Al l.length cl,.slice Ad d.length cd,.string c,.int .i64 v] 30))):=Hd bnew
 go_enter Tryz.func53,Tryz.ntmps53
 go_wp2_with fail
 refine (HC.out _ HB.out).mono ?_
 rintro e w1 ⟨rfl,hb1⟩
 have hB1:=HB.out.trans (hb1.mono HB.out.size)
 have e2:w1.cell? ⟨w.heap.size,2,none⟩=some (.int .i64 i):=(hb1.cell (p:=⟨w.heap.size,2,none⟩) (by simp)).trans (by simp[go_sem])
 have e0:w1.cell? ⟨w.heap.size,0,none⟩=some (.int .i64 k):=(hb1.cell (p:=⟨w.heap.size,0,none⟩) (by simp)).trans (by simp[go_sem])
 have e3:w1.cell? ⟨w.heap.size,3,none⟩=some (.float .f64 f):=(hb1.cell (p:=⟨w.heap.size,3,none⟩) (by simp)).trans (by simp[go_sem])
 generalize checkV u=q at *
 go_wp2_with fail
 all_goals try (go_ret;exact ⟨_,rfl,hB1⟩)
 refine (HF.out _ _).mono ?_
 rintro e w2 ⟨s9,rfl,q1,q2,q3⟩
 have hB2:=hB1.trans (q3.mono hB1.size)
 clear q3
 go_wp2
 all_goals (go_ret;exact ⟨_,rfl,hB2⟩)
end Go.Proofs.YtbemeapjeipjlaaGreatDoor
