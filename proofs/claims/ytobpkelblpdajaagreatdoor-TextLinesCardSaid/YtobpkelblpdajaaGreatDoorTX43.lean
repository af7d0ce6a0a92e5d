/- Walk: the parser: many things between an opening and a closing byte. -/
import Derived.Test.YtobpkelblpdajaaGreatDoorTX41
import Derived.Test.YtobpkelblpdajaaGreatDoorTX42
set_option linter.unusedVariables false
set_option linter.unusedSimpArgs false
set_option linter.unusedSectionVars false
namespace Go.Proofs.YtobpkelblpdajaaGreatDoor
open Go Go.RowKit
/- Many things: what one of them does (P), how the whole ends. -/
inductive Many {σ : Type} (P : σ → Nat → Nat → Except (Nat × Nat) (σ × Nat × Nat) → Prop) (s : List UInt8) (shut : UInt8) : Nat → σ → Nat → Nat → Except (Nat × Nat) (σ × Nat × Nat) → Prop
  | bad {k x a n z} (h : P x a n (.error z)) : Many P s shut (k + 1) x a n (.error z)
  | more {k x a n y b m r} (h : P x a n (.ok (y, b, m))) (hc : s[skipN s b]? = some 44) (ht : Many P s shut k y (skipN s b + 1) m r) : Many P s shut (k + 1) x a n r
  | shut {k x a n y b m} (h : P x a n (.ok (y, b, m))) (hc : s[skipN s b]? = some shut) (hne : shut ≠ 44) : Many P s shut (k + 1) x a n (.ok (y, skipN s b + 1, m))
  | wrong {k x a n y b m c} (h : P x a n (.ok (y, b, m))) (hc : s[skipN s b]? = some c) (hne : c ≠ shut) (hne2 : c ≠ 44) : Many P s shut (k + 1) x a n (.error (skipN s b, 3))
  | ends {k x a n y b m} (h : P x a n (.ok (y, b, m))) (hc : s[skipN s b]? = none) : Many P s shut (k + 1) x a n (.error (s.length, 4))
def OnePost {σ : Type} (St : σ → World → Prop) (bp : Nat) (s : ByteArray) (w0 : World) (r : Except (Nat × Nat) (σ × Nat × Nat)) (e : Ending) (w' : World) : Prop := match r with
  | .error (a, why) => e = .panicked [{ v := pfaultV a why, recovered := false }] ∧ Pside bp w0 w'
  | .ok (x, q, n) => e = .returned (.tuple #[]) ∧ St x w' ∧ PaAt w' bp s q n ∧ q ≤ s.size
set_option maxRecDepth 100000 in
set_option maxHeartbeats 4000000 in
theorem manyP_any {σ : Type} (St : σ → World → Prop) (P : σ → Nat → Nat → Except (Nat × Nat) (σ × Nat × Nat) → Prop) (F : FuncId) (cap : Array Value) (hF : ∀ args (W : World), (callFunc F args).run Tryz.prog W = .ok (.enter F args) W) (w0 : World) (bp a n k : Nat) (s : ByteArray) (shut : UInt8) (si : Int) (hsi : si = (shut.toNat : Int)) (x : σ) (r : Except (Nat × Nat) (σ × Nat × Nat)) (w : World)
    (hfr : ∀ x w, St x w → Pside bp w0 w) (hSt : ∀ x w w2, St x w → Pside bp w w2 → St x w2)
    (hone : ∀ x a n r w, P x a n r → a ≤ s.size → St x w → PaAt w bp s a n → Penv w bp → Calls Tryz.prog F cap w (OnePost St bp s w0 r))
    (hx : St x w) (h : PaAt w bp s a n) (he : Penv w0 bp) (ha : a < s.size) (hs : s.size ≤ 140737488351232)
    (hm : (s.data.toList[skipN s.data.toList (a + 1)]? = some shut ∧ r = .ok (x, skipN s.data.toList (a + 1) + 1, n)) ∨ (s.data.toList[skipN s.data.toList (a + 1)]? = none ∧ r = .error (s.size, 4)) ∨ (∃ c, s.data.toList[skipN s.data.toList (a + 1)]? = some c ∧ c ≠ shut ∧ Many P s.data.toList shut k x (skipN s.data.toList (a + 1)) n r)) :
    Calls Tryz.prog 202 #[.pointer (some ⟨bp, 0, none⟩), .int .u8 si, .func (.func F) #[] cap] w (OnePost St bp s w0 r) := by
  have hlt := h.lt
  have c1 := h.c1
  have f1 := h.f 1
  have kw : IntKind.i64.wrap ((a : Int) + 1) = (a : Int) + 1 := by rw [IntKind.wrap_i64]; omega
  have h1 : PaAt (w.setCell ⟨bp, 1, none⟩ (.int .i64 ((a : Int) + 1))) bp s (a + 1) n := by have h9 := h.set1 (a + 1); simpa using h9
  have HN := Lib.hid (next_any bp s (a + 1) n _ h1 (by omega) hs)
  have HX := Lib.hid (hSt _ _ _ hx ((Pside.refl bp w).set 1 (.int .i64 ((a : Int) + 1))))
  obtain ⟨q, hq⟩ : ∃ q, q = skipN s.data.toList (a + 1) := ⟨_, rfl⟩
  rw [← hq] at hm
  have HQ := Lib.hid hq
  clear hq hx h h1
  have HONE := Lib.hid hone
  have HFR := Lib.hid hfr
  have HST := Lib.hid hSt
  have HE := Lib.hid he
  have HSI := Lib.hid hsi
  clear hone hfr hSt he hsi
  rcases hm with ⟨hc, rfl⟩ | ⟨hc, rfl⟩ | ⟨c, hc, hne, hM⟩
  · have HG : Hid (NextPost bp s (a + 1) n (w.setCell ⟨bp, 1, none⟩ (.int .i64 ((a : Int) + 1))) = fun e w' => e = .returned (.int .u8 (shut.toNat : Int)) ∧ PaAt w' bp s q n ∧ Pside bp (w.setCell ⟨bp, 1, none⟩ (.int .i64 ((a : Int) + 1))) w') := Lib.hid (by funext e w'; unfold NextPost; rw [← HQ.out, hc])
    have hqs : q < s.size := by have := (List.getElem?_eq_some_iff.1 hc).1; rw [size_list] at this; exact this
    have kw2 : IntKind.i64.wrap ((q : Int) + 1) = (q : Int) + 1 := by rw [IntKind.wrap_i64]; omega
    rw [HG.out] at HN
    clear HG hc
    obtain rfl := HSI.out
    go_enter Tryz.func202, Tryz.ntmps202
    go_wp2_with fail
    refine HN.out.mono ?_
    rintro e w1 ⟨rfl, hp1, hk1⟩
    have c2 := hp1.c1
    have f2 := hp1.f 1
    have hx2 := HST.out _ _ _ (HST.out _ _ _ HX.out hk1) ((Pside.refl bp w1).set 1 (.int .i64 ((q : Int) + 1)))
    have hp2 : PaAt (w1.setCell ⟨bp, 1, none⟩ (.int .i64 ((q : Int) + 1))) bp s (q + 1) n := by have h9 := hp1.set1 (q + 1); simpa using h9
    clear hp1
    go_wp2_with fail
    go_end0
    exact ⟨rfl, hx2, hp2, by omega⟩
  · have HG : Hid (NextPost bp s (a + 1) n (w.setCell ⟨bp, 1, none⟩ (.int .i64 ((a : Int) + 1))) = Gives bp s.size 4 (w.setCell ⟨bp, 1, none⟩ (.int .i64 ((a : Int) + 1)))) := Lib.hid (by funext e w'; unfold NextPost; rw [← HQ.out, hc])
    rw [HG.out] at HN
    clear HG hc
    go_enter Tryz.func202, Tryz.ntmps202
    go_wp2_with fail
    refine HN.out.mono ?_
    rintro e w1 ⟨rfl, hk1⟩
    go_wp2_with fail
    exact ⟨rfl, rfl, (HFR.out _ _ HX.out).trans hk1⟩
  · have HG : Hid (NextPost bp s (a + 1) n (w.setCell ⟨bp, 1, none⟩ (.int .i64 ((a : Int) + 1))) = fun e w' => e = .returned (.int .u8 (c.toNat : Int)) ∧ PaAt w' bp s q n ∧ Pside bp (w.setCell ⟨bp, 1, none⟩ (.int .i64 ((a : Int) + 1))) w') := Lib.hid (by funext e w'; unfold NextPost; rw [← HQ.out, hc])
    have hqs : q < s.size := by have := (List.getElem?_eq_some_iff.1 hc).1; rw [size_list] at this; exact this
    rw [HG.out] at HN
    clear HG hc
    obtain rfl := HSI.out
    have hneI : ¬ ((c.toNat : Int) = (shut.toNat : Int)) := fun e => hne (UInt8.toNat_inj.1 (by omega))
    have hneB : ((c.toNat : Int) == (shut.toNat : Int)) = false := by rw [beq_eq_false_iff_ne]; exact hneI
    go_enter Tryz.func202, Tryz.ntmps202
    go_wp2_with fail
    refine HN.out.mono ?_
    rintro e w1 ⟨rfl, hp1, hk1⟩
    have HX1 := Lib.hid (HST.out _ _ _ HX.out hk1)
    have HM := Lib.hid hM
    clear hM HX
    go_wp2_with fail
    go_loopg [6] k (fun r' _ wr => ∃ (y : σ) (b m : Nat), Many P s.data.toList shut r' y b m r ∧ St y wr ∧ PaAt wr bp s b m ∧ b ≤ s.size)
    case atStart => exact ⟨x, q, n, HM.out, HX1.out, hp1, by omega⟩
    case round =>
      obtain ⟨y, b, m, hM, hy, hp, hb⟩ := hrel
      have hpe := HE.out.pside (HFR.out _ _ hy)
      cases hM with
      | bad h =>
        have H1 := Lib.hid (HONE.out _ _ _ _ wr h hb hy hp hpe)
        clear h hp hy hpe
        unfold OnePost at H1
        go_wp2_with fail
        refine H1.out.mono ?_
        rintro e w2 ⟨rfl, hk2⟩
        go_wp2_with fail
        exact ⟨rfl, rfl, hk2⟩
      | @more k2 x2 a2 n2 y2 q2 m2 r2 h hc ht =>
        have HT := Lib.hid ht
        clear ht
        have H1 := Lib.hid (HONE.out _ _ _ _ wr h hb hy hp hpe)
        clear h hp hy hpe
        unfold OnePost at H1
        go_wp2_with fail
        refine H1.out.mono ?_
        rintro e w2 ⟨rfl, hy2, hp2, hb2⟩
        obtain ⟨z, hz⟩ : ∃ z, z = skipN s.data.toList q2 := ⟨_, rfl⟩
        have hzs : z < s.size := by have := (List.getElem?_eq_some_iff.1 hc).1; rw [size_list, ← hz] at this; exact this
        have HN2 := Lib.hid (by have h9 := next_any bp s _ _ w2 hp2 hb2 hs; unfold NextPost at h9; rw [hc, ← hz] at h9; exact h9 : Calls Tryz.prog 134 #[.pointer (some ⟨bp, 0, none⟩)] w2 (fun e w' => e = .returned (.int .u8 ((44 : UInt8).toNat : Int)) ∧ PaAt w' bp s z m2 ∧ Pside bp w2 w'))
        have kz : IntKind.i64.wrap ((z : Int) + 1) = (z : Int) + 1 := by rw [IntKind.wrap_i64]; omega
        have HZ := Lib.hid hz
        clear hp2 hz hc
        go_wp2_with fail
        refine HN2.out.mono ?_
        rintro e w3 ⟨rfl, hp3, hk3⟩
        have c3 := hp3.c1
        have f3 := hp3.f 1
        have hy4 := HST.out _ _ _ (HST.out _ _ _ hy2 hk3) ((Pside.refl bp w3).set 1 (.int .i64 ((z : Int) + 1)))
        have hp4 : PaAt (w3.setCell ⟨bp, 1, none⟩ (.int .i64 ((z : Int) + 1))) bp s (z + 1) m2 := by have h9 := hp3.set1 (z + 1); simpa using h9
        clear hp3 hy2
        rw [← HZ.out] at HT
        go_wp2_with fail
        go_roundg k2
        case rel => exact ⟨y2, z + 1, m2, HT.out, hy4, hp4, by omega⟩
        case measure => omega
      | @shut k2 x2 a2 n2 y2 q2 m2 h hc hne4 =>
        have n4 : ¬ ((shut.toNat : Int) = 44) := fun e => hne4 (UInt8.toNat_inj.1 (by show shut.toNat = 44; omega))
        have H1 := Lib.hid (HONE.out _ _ _ _ wr h hb hy hp hpe)
        clear h hp hy hpe
        unfold OnePost at H1
        go_wp2_with fail
        refine H1.out.mono ?_
        rintro e w2 ⟨rfl, hy2, hp2, hb2⟩
        obtain ⟨z, hz⟩ : ∃ z, z = skipN s.data.toList q2 := ⟨_, rfl⟩
        have hzs : z < s.size := by have := (List.getElem?_eq_some_iff.1 hc).1; rw [size_list, ← hz] at this; exact this
        have HN2 := Lib.hid (by have h9 := next_any bp s _ _ w2 hp2 hb2 hs; unfold NextPost at h9; rw [hc, ← hz] at h9; exact h9 : Calls Tryz.prog 134 #[.pointer (some ⟨bp, 0, none⟩)] w2 (fun e w' => e = .returned (.int .u8 (shut.toNat : Int)) ∧ PaAt w' bp s z m2 ∧ Pside bp w2 w'))
        have kz : IntKind.i64.wrap ((z : Int) + 1) = (z : Int) + 1 := by rw [IntKind.wrap_i64]; omega
        have HZ := Lib.hid hz
        clear hp2 hz hc
        go_wp2_with fail
        refine HN2.out.mono ?_
        rintro e w3 ⟨rfl, hp3, hk3⟩
        have c3 := hp3.c1
        have f3 := hp3.f 1
        have hy4 := HST.out _ _ _ (HST.out _ _ _ hy2 hk3) ((Pside.refl bp w3).set 1 (.int .i64 ((z : Int) + 1)))
        have hp4 : PaAt (w3.setCell ⟨bp, 1, none⟩ (.int .i64 ((z : Int) + 1))) bp s (z + 1) m2 := by have h9 := hp3.set1 (z + 1); simpa using h9
        clear hp3 hy2
        go_wp2_with fail
        go_end0
        exact ⟨rfl, hy4, by rw [← HZ.out]; exact hp4, by rw [← HZ.out]; omega⟩
      | @wrong k2 x2 a2 n2 y2 q2 m2 c2 h hc hne3 hne4 =>
        have n3 : ¬ ((c2.toNat : Int) = (shut.toNat : Int)) := fun e => hne3 (UInt8.toNat_inj.1 (by omega))
        have n4 : ¬ ((c2.toNat : Int) = 44) := fun e => hne4 (UInt8.toNat_inj.1 (by show c2.toNat = 44; omega))
        have H1 := Lib.hid (HONE.out _ _ _ _ wr h hb hy hp hpe)
        clear h hp hy hpe
        unfold OnePost at H1
        go_wp2_with fail
        refine H1.out.mono ?_
        rintro e w2 ⟨rfl, hy2, hp2, hb2⟩
        obtain ⟨z, hz⟩ : ∃ z, z = skipN s.data.toList q2 := ⟨_, rfl⟩
        have hzs : z < s.size := by have := (List.getElem?_eq_some_iff.1 hc).1; rw [size_list, ← hz] at this; exact this
        have HN2 := Lib.hid (by have h9 := next_any bp s _ _ w2 hp2 hb2 hs; unfold NextPost at h9; rw [hc, ← hz] at h9; exact h9 : Calls Tryz.prog 134 #[.pointer (some ⟨bp, 0, none⟩)] w2 (fun e w' => e = .returned (.int .u8 (c2.toNat : Int)) ∧ PaAt w' bp s z m2 ∧ Pside bp w2 w'))
        have kz : IntKind.i64.wrap ((z : Int) + 1) = (z : Int) + 1 := by rw [IntKind.wrap_i64]; omega
        have HZ := Lib.hid hz
        clear hp2 hz hc
        go_wp2_with fail
        refine HN2.out.mono ?_
        rintro e w3 ⟨rfl, hp3, hk3⟩
        have c3 := hp3.c1
        have f3 := hp3.f 1
        have HF3 := Lib.hid (by have h9 := fail_any (.pointer (some ⟨bp, 0, none⟩)) bp z 3 rfl w3; exact h9 : Calls Tryz.prog 81 #[.pointer (some ⟨bp, 0, none⟩), .int .i64 z, .int .i64 3] w3 (Gives bp z 3 w3))
        clear hp3
        go_wp2_with fail
        refine HF3.out.mono ?_
        rintro e w4 ⟨rfl, hk4⟩
        go_wp2_with fail
        exact ⟨rfl, by rw [← HZ.out], (HFR.out _ _ hy2).trans (hk3.trans hk4)⟩
      | ends h hc =>
        have H1 := Lib.hid (HONE.out _ _ _ _ wr h hb hy hp hpe)
        clear h hp hy hpe
        unfold OnePost at H1
        go_wp2_with fail
        refine H1.out.mono ?_
        rintro e w2 ⟨rfl, hy2, hp2, hb2⟩
        have HN2 := Lib.hid ((by have h9 := next_any bp s _ _ w2 hp2 hb2 hs; unfold NextPost at h9; rw [hc] at h9; exact h9 : Calls Tryz.prog 134 #[.pointer (some ⟨bp, 0, none⟩)] w2 (Gives bp s.size 4 w2)))
        clear hp2
        go_wp2_with fail
        refine HN2.out.mono ?_
        rintro e w3 ⟨rfl, hk3⟩
        go_wp2_with fail
        exact ⟨rfl, rfl, (HFR.out _ _ hy2).trans hk3⟩
end Go.Proofs.YtobpkelblpdajaaGreatDoor
/- Walks: the parser: lists. -/
namespace Go.Proofs.YtobpkelblpdajaaGreatDoor
open Go Go.RowKit
/- One thing of a list, as a step from what was read. -/
def ListP (s : ByteArray) (dp : Nat) (acc : List V) (a n : Nat) (r : Except (Nat × Nat) (List V × Nat × Nat)) : Prop :=
  ∃ (c : UInt8) (r0 : Rd1), s.data.toList[skipN s.data.toList a]? = some c ∧ acc.length < 4096 ∧ PvalC s (dp + 1) (skipN s.data.toList a) n r0 ∧ (∀ x q m, r0 = .ok (x, q, m) → q ≤ s.size) ∧
    r = match r0 with | .error z => .error z | .ok (x, q, m) => .ok (acc ++ [x], q, m)
def listR (r : Except (Nat × Nat) (List V × Nat × Nat)) : Rd1 := match r with | .error z => .error z | .ok (l, q, m) => .ok (.list l, q, m)
def manyS {σ : Type} (P : σ → Nat → Nat → Except (Nat × Nat) (σ × Nat × Nat) → Prop) (s : ByteArray) (shut : UInt8) (x : σ) (a n : Nat) (r : Except (Nat × Nat) (σ × Nat × Nat)) : Prop :=
  (s.data.toList[skipN s.data.toList (a + 1)]? = some shut ∧ r = .ok (x, skipN s.data.toList (a + 1) + 1, n)) ∨ (s.data.toList[skipN s.data.toList (a + 1)]? = none ∧ r = .error (s.size, 4)) ∨ (∃ k c, s.data.toList[skipN s.data.toList (a + 1)]? = some c ∧ c ≠ shut ∧ Many P s.data.toList shut k x (skipN s.data.toList (a + 1)) n r)
theorem manyQ_any {σ : Type} (St : σ → World → Prop) (P : σ → Nat → Nat → Except (Nat × Nat) (σ × Nat × Nat) → Prop) (F : FuncId) (cap : Array Value) (hF : ∀ args (W : World), (callFunc F args).run Tryz.prog W = .ok (.enter F args) W) (w0 : World) (bp a n : Nat) (s : ByteArray) (shut : UInt8) (si : Int) (hsi : si = (shut.toNat : Int)) (x : σ) (r : Except (Nat × Nat) (σ × Nat × Nat)) (w : World)
    (hfr : ∀ x w, St x w → Pside bp w0 w) (hSt : ∀ x w w2, St x w → Pside bp w w2 → St x w2)
    (hone : ∀ x a n r w, P x a n r → a ≤ s.size → St x w → PaAt w bp s a n → Penv w bp → Calls Tryz.prog F cap w (OnePost St bp s w0 r))
    (hx : St x w) (h : PaAt w bp s a n) (he : Penv w0 bp) (ha : a < s.size) (hs : s.size ≤ 140737488351232) (hm : manyS P s shut x a n r) :
    Calls Tryz.prog 202 #[.pointer (some ⟨bp, 0, none⟩), .int .u8 si, .func (.func F) #[] cap] w (OnePost St bp s w0 r) := by
  rcases hm with hm | hm | ⟨k, hm⟩
  · exact manyP_any St P F cap hF w0 bp a n 0 s shut si hsi x r w hfr hSt hone hx h he ha hs (.inl hm)
  · exact manyP_any St P F cap hF w0 bp a n 0 s shut si hsi x r w hfr hSt hone hx h he ha hs (.inr (.inl hm))
  · exact manyP_any St P F cap hF w0 bp a n k s shut si hsi x r w hfr hSt hone hx h he ha hs (.inr (.inr hm))
theorem list_one (w0 : World) (bp cp lc cd dp : Nat) (s : ByteArray) (hs : s.size ≤ 140737488351232) (hdp : dp ≤ 64) : ∀ x a n r w, ListP s dp x a n r → a ≤ s.size → LSt w0 w bp cp lc cd dp x → PaAt w bp s a n → Penv w bp → Calls Tryz.prog 203 #[.pointer (some ⟨cp, 0, none⟩), .pointer (some ⟨lc, 0, none⟩), .pointer (some ⟨cd, 0, none⟩)] w (OnePost (fun l w => LSt w0 w bp cp lc cd dp l) bp s w0 r) := by
  rintro x a n r w ⟨c, r0, hc, hlen, hr, hq, rfl⟩ ha hL h he
  refine (list1_any w0 bp cp lc cd dp a n s x c r0 w hL h he ha hs hc hlen hdp hr).mono ?_
  intro e w' h1
  cases r0 with
  | error z => exact h1
  | ok z =>
    obtain ⟨y, q, m⟩ := z
    obtain ⟨h2, h3, h4⟩ := h1
    exact ⟨h2, h3, h4, hq y q m rfl⟩
theorem four_start (w : World) (o1 o2 o3 o4 : Obj) : ((((w.alloc o1).alloc o2).alloc o3).alloc o4).heap[w.heap.size]? = some o1 ∧ ((((w.alloc o1).alloc o2).alloc o3).alloc o4).heap[w.heap.size + 1]? = some o2 ∧ ((((w.alloc o1).alloc o2).alloc o3).alloc o4).heap[w.heap.size + 1 + 1]? = some o3 ∧ ((((w.alloc o1).alloc o2).alloc o3).alloc o4).heap[w.heap.size + 1 + 1 + 1]? = some o4 := by
  have z1 : (w.alloc o1).heap.size = w.heap.size + 1 := by simp
  have z2 : ((w.alloc o1).alloc o2).heap.size = w.heap.size + 1 + 1 := by simp
  have z3 : (((w.alloc o1).alloc o2).alloc o3).heap.size = w.heap.size + 1 + 1 + 1 := by simp
  have n1 := heap_alloc_new w o1
  have n2 := heap_alloc_new (w.alloc o1) o2
  have n3 := heap_alloc_new ((w.alloc o1).alloc o2) o3
  have n4 := heap_alloc_new (((w.alloc o1).alloc o2).alloc o3) o4
  rw [z1] at n2
  rw [z2] at n3
  rw [z3] at n4
  have l := fun (W : World) (o : Obj) (k : Nat) (hk : k < W.heap.size) => heap_alloc_old W o hk
  refine ⟨?_, ?_, ?_, n4⟩
  · rw [l _ _ _ (by omega), l _ _ _ (by omega), l _ _ _ (by omega)]; exact n1
  · rw [l _ _ _ (by omega), l _ _ _ (by omega)]; exact n2
  · rw [l _ _ _ (by omega)]; exact n3
theorem LSt.start (w : World) (bp dp : Nat) (hbp : bp < w.heap.size) : LSt w ((((w.alloc (.cells #[.pointer (some ⟨bp, 0, none⟩)] 166)).alloc (.cells #[.int .i64 dp] 3)).alloc (.cells #[] 20)).alloc (.cells #[.slice (some ⟨w.heap.size + 1 + 1, 0, none⟩) 0 0] 43)) bp w.heap.size (w.heap.size + 1 + 1 + 1) (w.heap.size + 1) dp [] := by
  obtain ⟨a1, a2, a3, a4⟩ := four_start w (.cells #[.pointer (some ⟨bp, 0, none⟩)] 166) (.cells #[.int .i64 dp] 3) (.cells #[] 20) (.cells #[.slice (some ⟨w.heap.size + 1 + 1, 0, none⟩) 0 0] 43)
  exact ⟨((((Pside.refl _ _).alloc _).alloc _).alloc _).alloc _, a1, a2, ⟨.slice (some ⟨w.heap.size + 1 + 1, 0, none⟩) 0 0, a4, [], ⟨by simp, .inr ⟨w.heap.size + 1 + 1, 0, #[], rfl, by omega, a3, Nat.le_refl _, by simp [maxLen], by simp, by simp⟩⟩, fun i x h => by simp at h⟩, ⟨Nat.le_refl _, by omega⟩, ⟨by omega, by omega⟩, hbp⟩
set_option maxRecDepth 100000 in
set_option maxHeartbeats 2000000 in
theorem list_meth (s : ByteArray) (dp a n : Nat) (r : Except (Nat × Nat) (List V × Nat × Nat)) (ha : a < s.size) (hs : s.size ≤ 140737488351232) (hdp : dp ≤ 64) (hm : manyS (ListP s dp) s 93 [] a n r) (hlen : ∀ l q m, r = .ok (l, q, m) → l.length ≤ 1099511627776) : MethD 141 s dp a n (listR r) := by
  intro bp w h he
  have hlt := h.lt
  have HS := Lib.hid (LSt.start w bp dp hlt)
  have HM := Lib.hid (fun (W : World) (cp lc cd : Nat) (hL : LSt w W bp cp lc cd dp []) (hp : PaAt W bp s a n) => manyQ_any (fun l W => LSt w W bp cp lc cd dp l) (ListP s dp) 203 #[.pointer (some ⟨cp, 0, none⟩), .pointer (some ⟨lc, 0, none⟩), .pointer (some ⟨cd, 0, none⟩)] (enters_of Tryz.func203 (by kernel_rfl) rfl) w bp a n s 93 93 rfl [] r W (fun l W h => h.fr) (fun l W W2 h hp => h.pside hp) (list_one w bp cp lc cd dp s hs hdp) hL hp he ha hs hm)
  have HP := Lib.hid h
  clear hm he h
  go_enter Tryz.func141, Tryz.ntmps141
  go_wp2_with fail
  refine (HM.out _ _ _ _ HS.out ((((HP.out.alloc _).alloc _).alloc _).alloc _)).mono ?_
  intro e w1 h1
  cases r with
  | error z =>
    obtain ⟨b, why⟩ := z
    obtain ⟨rfl, h2⟩ := h1
    exact ⟨rfl, rfl, h2⟩
  | ok z =>
    obtain ⟨l, q, m⟩ := z
    have hll := hlen l q m rfl
    obtain ⟨rfl, ⟨fr, hcp, hcd, ⟨v, hl, ho⟩, o1, o2, o3⟩, hpa, -⟩ := h1
    have d0 : w1.cell? ⟨w.heap.size + 1 + 1 + 1, 0, none⟩ = some v := by rw [Lib.cell_of_heap hl]; rfl
    obtain ⟨A, c, rfl⟩ := ho.form
    clear hl hcp hcd HM HS HP
    go_wp2_with fail
    go_ret
    exact ⟨⟨_, rfl, RdS.more (fun b hb => ⟨hb.1.elim (fun h => by omega) id, hb.2⟩) _ _ (ho.read hll)⟩, hpa, fr⟩
end Go.Proofs.YtobpkelblpdajaaGreatDoor
/- Walks: the parser: dicts. -/
namespace Go.Proofs.YtobpkelblpdajaaGreatDoor
open Go Go.RowKit
/- One field, as a step from what was read. -/
def FieldP (s : ByteArray) (dp : Nat) (acc : List (ByteArray × V)) (a n : Nat) (r : Except (Nat × Nat) (List (ByteArray × V) × Nat × Nat)) : Prop :=
  ∃ (c : UInt8) (nm : ByteArray) (q2 q3 : Nat) (r0 : Rd1), s.data.toList[skipN s.data.toList a]? = some c ∧ nm.data.toList = wordW s.data.toList (skipN s.data.toList a) ∧ isNameB nm.data.toList = true ∧ q2 = skipN s.data.toList a + runN wordL s.data.toList (skipN s.data.toList a) ∧ q3 = skipN s.data.toList q2 ∧ s.data.toList[q3]? = some 58 ∧
    acc.length < 4096 ∧ (∀ p, acc[acc.length - 1]? = some p → leS nm p.1 = false) ∧ PvalC s (dp + 1) (q3 + 1) n r0 ∧ (∀ x q m, r0 = .ok (x, q, m) → q ≤ s.size) ∧
    r = match r0 with | .error z => .error z | .ok (x, q, m) => .ok (acc ++ [(nm, x)], q, m)
def dictR (r : Except (Nat × Nat) (List (ByteArray × V) × Nat × Nat)) : Rd1 := match r with | .error z => .error z | .ok (l, q, m) => .ok (.dict l, q, m)
theorem isName_ne {l : List UInt8} (h : isNameB l = true) : l ≠ [] ∧ l.length ≤ 32 := by
  cases l with
  | nil => cases h
  | cons c r =>
    simp only [isNameB, Bool.and_eq_true, decide_eq_true_eq] at h
    exact ⟨by simp, by simp; omega⟩
theorem field_one (w0 : World) (bp cp lc cd dp : Nat) (s : ByteArray) (hs : s.size ≤ 140737488351232) (hdp : dp ≤ 64) : ∀ x a n r w, FieldP s dp x a n r → a ≤ s.size → FSt w0 w bp cp lc cd dp x → PaAt w bp s a n → Penv w bp → Calls Tryz.prog 204 #[.pointer (some ⟨cp, 0, none⟩), .pointer (some ⟨lc, 0, none⟩), .pointer (some ⟨cd, 0, none⟩)] w (OnePost (fun l w => FSt w0 w bp cp lc cd dp l) bp s w0 r) := by
  rintro x a n r w ⟨c, nm, q2, q3, r0, hc, hnm, hin, hq2, hq3, h58, hlen, ho, hr, hq, rfl⟩ ha hL h he
  obtain ⟨hne, hl32⟩ := isName_ne hin
  have hsz := size_list s
  have hq3s : q3 < s.size := by have := (List.getElem?_eq_some_iff.1 h58).1; omega
  have hnz : nm.size ≤ 32 := by rw [← size_list]; exact hl32
  have hsk : skipN s.data.toList a ≤ s.size := by have := (List.getElem?_eq_some_iff.1 hc).1; omega
  have hrl := runN_le (p := wordL) (L := s.data.toList) (a := skipN s.data.toList a) (by omega)
  have hq2s : q2 ≤ s.size := by omega
  have hnm2 : nm = s.extract (skipN s.data.toList a) q2 := by
    have h1 : (s.extract (skipN s.data.toList a) (skipN s.data.toList a + runN wordL s.data.toList (skipN s.data.toList a))).data.toList = nm.data.toList := by rw [run_slice _ _ _ (by omega), hnm]; rfl
    rw [hq2]
    cases hx : s.extract (skipN s.data.toList a) (skipN s.data.toList a + runN wordL s.data.toList (skipN s.data.toList a)) with
    | mk d =>
      rw [hx] at h1
      cases nm with
      | mk d2 =>
        cases d with | mk l => cases d2 with | mk l2 => simp at h1; rw [h1]
  refine (fieldZ_any w0 bp cp lc cd dp n (skipN s.data.toList a) q2 q3 0 s nm x r0 w hL (Lib.hid he) (by rintro rfl; exact hne rfl) (by omega) hq3s hs (Lib.hid ?_) (Lib.hid ?_) (Lib.hid ?_) (Lib.hid ?_) ho hlen hdp hr).mono ?_
  · refine (next_any bp s a n w h ha hs).mono ?_
    intro e w' h1
    unfold NextPost at h1
    rw [hc] at h1
    exact ⟨⟨c, h1.1⟩, h1.2⟩
  · intro W hp
    refine (run_any bp s ⟨wordL.toArray⟩ _ n W hp hsk hs).mono ?_
    rintro e w' ⟨h1, h2, h3⟩
    rw [show (⟨wordL.toArray⟩ : ByteArray).data.toList = wordL by rfl, ← hq2] at h1 h2
    rw [← hnm2] at h1
    exact ⟨h1, h2, h3⟩
  · intro W
    have := isName_any nm W (by omega)
    rw [hin] at this
    exact this
  · intro W hp
    refine (next_any bp s q2 n W hp hq2s hs).mono ?_
    intro e w' h1
    unfold NextPost at h1
    rw [← hq3, h58] at h1
    exact ⟨h1.1, h1.2.1, h1.2.2⟩
  · intro e w' h1
    cases r0 with
    | error z => exact h1
    | ok z =>
      obtain ⟨y, q, m⟩ := z
      obtain ⟨h2, h3, h4⟩ := h1
      exact ⟨h2, h3, h4, hq y q m rfl⟩
def DPost (bp : Nat) (s : ByteArray) (w : World) (e : Ending) (w' : World) (r : Rd1) : Prop := match r with
  | .error (a, why) => Gives bp a why w e w'
  | .ok (x, q, n) => (∃ v, e = .returned v ∧ RdS w' (New w w') x (.iface 41 v) ∧ v.oneCell' = true) ∧ PaAt w' bp s q n ∧ Pside bp w w'
theorem d_ok {bp : Nat} {s : ByteArray} {n q : Nat} {r : Rd1} {x : V} {v : Value} {w w' : World} {e : Ending} (h : r = .ok (x, q, n)) (he : e = .returned v) (hr : RdS w' (New w w') x (.iface 41 v)) (h1 : v.oneCell' = true) (hp : PaAt w' bp s q n) (hs : Pside bp w w') : DPost bp s w e w' r := by subst h; exact ⟨⟨v, he, hr, h1⟩, hp, hs⟩
theorem FSt.start (w : World) (bp dp : Nat) (hbp : bp < w.heap.size) : FSt w ((((w.alloc (.cells #[.pointer (some ⟨bp, 0, none⟩)] 166)).alloc (.cells #[.int .i64 dp] 3)).alloc (.cells #[] 39)).alloc (.cells #[.slice (some ⟨w.heap.size + 1 + 1, 0, none⟩) 0 0] 41)) bp w.heap.size (w.heap.size + 1 + 1 + 1) (w.heap.size + 1) dp [] := by
  obtain ⟨a1, a2, a3, a4⟩ := four_start w (.cells #[.pointer (some ⟨bp, 0, none⟩)] 166) (.cells #[.int .i64 dp] 3) (.cells #[] 39) (.cells #[.slice (some ⟨w.heap.size + 1 + 1, 0, none⟩) 0 0] 41)
  exact ⟨((((Pside.refl _ _).alloc _).alloc _).alloc _).alloc _, a1, a2, ⟨.slice (some ⟨w.heap.size + 1 + 1, 0, none⟩) 0 0, a4, [], ⟨by simp, .inr ⟨w.heap.size + 1 + 1, 0, #[], rfl, by omega, a3, Nat.le_refl _, by simp [maxLen], by simp, by simp⟩⟩, fun i x h => by simp at h⟩, ⟨Nat.le_refl _, by omega⟩, ⟨by omega, by omega⟩, hbp⟩
set_option maxRecDepth 100000 in
set_option maxHeartbeats 2000000 in
theorem dict_meth (s : ByteArray) (dp a n : Nat) (r : Except (Nat × Nat) (List (ByteArray × V) × Nat × Nat)) (ha : a < s.size) (hs : s.size ≤ 140737488351232) (hdp : dp ≤ 64) (hm : manyS (FieldP s dp) s 125 [] a n r) (hlen : ∀ l q m, r = .ok (l, q, m) → l.length ≤ 1099511627776) : DictC s dp a n (dictR r) := by
  intro bp w h he
  have hlt := h.lt
  have HS := Lib.hid (FSt.start w bp dp hlt)
  have HM := Lib.hid (fun (W : World) (cp lc cd : Nat) (hL : FSt w W bp cp lc cd dp []) (hp : PaAt W bp s a n) => manyQ_any (fun l W => FSt w W bp cp lc cd dp l) (FieldP s dp) 204 #[.pointer (some ⟨cp, 0, none⟩), .pointer (some ⟨lc, 0, none⟩), .pointer (some ⟨cd, 0, none⟩)] (enters_of Tryz.func204 (by kernel_rfl) rfl) w bp a n s 125 125 rfl [] r W (fun l W h => h.fr) (fun l W W2 h hp => h.pside hp) (field_one w bp cp lc cd dp s hs hdp) hL hp he ha hs hm)
  have HP := Lib.hid h
  clear hm he h
  change Calls Tryz.prog 142 #[.pointer (some ⟨bp, 0, none⟩), .int .i64 dp] w (fun e w' => DPost bp s w e w' (dictR r))
  go_enter Tryz.func142, Tryz.ntmps142
  go_wp2_with fail
  refine (HM.out _ _ _ _ HS.out ((((HP.out.alloc _).alloc _).alloc _).alloc _)).mono ?_
  intro e w1 h1
  cases r with
  | error z =>
    obtain ⟨b, why⟩ := z
    obtain ⟨rfl, h2⟩ := h1
    exact ⟨rfl, rfl, h2⟩
  | ok z =>
    obtain ⟨l, q, m⟩ := z
    have hll := hlen l q m rfl
    obtain ⟨rfl, ⟨fr, hcp, hcd, ⟨v, hl, ho⟩, o1, o2, o3⟩, hpa, -⟩ := h1
    have d0 : w1.cell? ⟨w.heap.size + 1 + 1 + 1, 0, none⟩ = some v := by rw [Lib.cell_of_heap hl]; rfl
    obtain ⟨A, c, rfl⟩ := ho.form
    clear hl hcp hcd HM HS HP
    go_wp2_with fail
    go_ret
    obtain ⟨A2, c2, e2, hr⟩ := ho.read
    injection e2 with e2 _ e3
    subst e2; subst e3
    exact d_ok (x := .dict l) rfl rfl ⟨A, c, rfl, hll, hr.more (fun b hb => ⟨hb.1.elim (fun h => by omega) id, hb.2⟩)⟩ rfl hpa fr
end Go.Proofs.YtobpkelblpdajaaGreatDoor
