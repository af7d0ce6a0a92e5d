/- The floats of a term that an input brings have 64 bits. -/
import Derived.Test.YtobpkelblpdajaaGreatDoorTX26
import Derived.Test.YtobpkelblpdajaaGreatDoorTX20
import Derived.Test.YtobpkelblpdajaaGreatDoorTX23
set_option linter.unusedVariables false
set_option linter.unusedSimpArgs false
set_option linter.unusedSectionVars false
namespace Go.Proofs.YtobpkelblpdajaaGreatDoor
open Go Go.RowKit
mutual
def FltT : Tm → Prop
  | .mk _ _ _ f _ _ _ l d _ _ => f < 18446744073709551616 ∧ FltTL l ∧ FltTD d
def FltTL : List Tm → Prop
  | [] => True
  | x :: r => FltT x ∧ FltTL r
def FltTD : List (ByteArray × Tm) → Prop
  | [] => True
  | (_, x) :: r => FltT x ∧ FltTD r
end
theorem FltTL.of {l : List Tm} (h : ∀ x ∈ l, FltT x) : FltTL l := by
  induction l with
  | nil => trivial
  | cons x r ih => exact ⟨h x (by simp), ih fun y hy => h y (by simp [hy])⟩
theorem FltTD.of {l : List (ByteArray × Tm)} (h : ∀ p ∈ l, FltT p.2) : FltTD l := by
  induction l with
  | nil => trivial
  | cons x r ih =>
    obtain ⟨n, x⟩ := x
    exact ⟨h (n, x) (by simp), ih fun y hy => h y (by simp [hy])⟩
section
variable {H : Type} {enc : TypeId × Value → H} {P : Program} {w : World} {held : Bool}
theorem trod_floatF {t : TypeId} {fuel : Nat} {cs : List Value} {x : DataW H × List MemPlace} (ht : P.underlying t = some (.float .f64)) (h : DataW.trod enc P w 0 (fun _ => true) held fuel t cs = some x) : ∃ b, cs = [.float .f64 b] ∧ b < 18446744073709551616 := by
  cases fuel with
  | zero => simp [DataW.trod] at h
  | succ n =>
    unfold DataW.trod at h
    rw [ht] at h
    rcases cs with _ | ⟨c, _ | ⟨c2, r⟩⟩
    · simp at h
    · cases c <;> simp at h
      rename_i k' b
      obtain ⟨⟨h1, h2⟩, -⟩ := h
      subst h1
      exact ⟨b, rfl, by simpa [Lit.wf] using h2⟩
    · cases c <;> simp at h
set_option maxRecDepth 100000 in
theorem open_tmF : ∀ (fuel : Nat) (cs : List Value) (x : DataW H × List MemPlace), DataW.trod enc Tryz.prog w 0 (fun _ => true) held fuel 29 cs = some x → Wok Tryz.prog 29 x.1 → ∃ T, RdT w w.heap.size T cs ∧ FltT T := by
  intro fuel
  induction fuel using Nat.strongRecOn with
  | _ fuel ih =>
    intro cs x h hw
    obtain ⟨n, rfl, hlen, hf⟩ := open_field Tryz.underlying29 h hw
    obtain ⟨c0, c1, c2, c3, c4, c5, c6, c7, c8, c9, c10, rfl⟩ := eleven_of (cs := cs) (by rw [hlen]; kernel_rfl)
    have k2 : Tryz.prog.cellsOf 3 = 1 := by kernel_rfl
    have k3 : Tryz.prog.cellsOf 4 = 1 := by kernel_rfl
    have k4 : Tryz.prog.cellsOf 2 = 1 := by kernel_rfl
    have k5 : Tryz.prog.cellsOf 22 = 1 := by kernel_rfl
    have k6 : Tryz.prog.cellsOf 9 = 1 := by kernel_rfl
    have k7 : Tryz.prog.cellsOf 23 = 1 := by kernel_rfl
    have k8 : Tryz.prog.cellsOf 25 = 1 := by kernel_rfl
    have k9 : Tryz.prog.cellsOf 26 = 1 := by kernel_rfl
    have k10 : Tryz.prog.cellsOf 27 = 1 := by kernel_rfl
    obtain ⟨y0, e0, w0⟩ := hf 0 3 0 rfl
    obtain ⟨y1, e1, w1⟩ := hf 1 4 1 rfl
    obtain ⟨y2, e2, w2⟩ := hf 2 2 2 rfl
    obtain ⟨y3, e3, w3⟩ := hf 3 22 3 rfl
    obtain ⟨y4, e4, w4⟩ := hf 4 9 4 rfl
    obtain ⟨y5, e5, w5⟩ := hf 5 23 5 rfl
    obtain ⟨y6, e6, w6⟩ := hf 6 25 6 rfl
    obtain ⟨y7, e7, w7⟩ := hf 7 26 7 rfl
    obtain ⟨y8, e8, w8⟩ := hf 8 27 8 rfl
    obtain ⟨y9, e9, w9⟩ := hf 9 9 9 rfl
    obtain ⟨y10, e10, w10⟩ := hf 10 3 10 rfl
    simp only [k2, k3, k4, k5, k6, k7, k8, k9, k10, List.drop_succ_cons, List.drop_zero, List.take_succ_cons, List.take_zero] at e0 e1 e2 e3 e4 e5 e6 e7 e8 e9 e10
    obtain ⟨n0, q0, -, g0⟩ := DataW.trod_int Tryz.underlying3 e0
    obtain ⟨n1, q1, -⟩ := DataW.trod_bool Tryz.underlying4 e1
    obtain ⟨n2, q2, -, g2⟩ := DataW.trod_int Tryz.underlying2 e2
    obtain ⟨n3, q3, g3⟩ := trod_floatF Tryz.underlying22 e3
    obtain ⟨n4, q4, rfl, -⟩ := DataW.trod_string Tryz.underlying9 e4
    have g4 := str_wok w4
    obtain ⟨A5, m5, n5, q5, g5, h5, r5⟩ := open_bytes e5 w5
    obtain ⟨n6, q6, -, g6⟩ := DataW.trod_int Tryz.underlying25 e6
    obtain ⟨A7, m7, n7, q7, g7, h7, r7⟩ := open_list (α := Tm) (C := 11) (fun T v => RdT w w.heap.size T v ∧ FltT T) Tryz.underlying26 (by kernel_rfl) (by omega) e7 w7 (fun m hm cs' y hy hwy => ih m (by omega) cs' y hy hwy)
    obtain ⟨A8, m8, n8, q8, g8, h8, r8⟩ := open_list (α := ByteArray × Tm) (C := 12) (fun p v => ∃ y, v = .string p.1 :: y ∧ p.1.size ≤ 140737488351232 ∧ RdT w w.heap.size p.2 y ∧ FltT p.2) Tryz.underlying27 (by kernel_rfl) (by omega) e8 w8 (fun m hm cs' y hy hwy => by
      obtain ⟨k, rfl, hlk, hfk⟩ := open_field Tryz.underlying34 hy hwy
      obtain ⟨z0, ez0, wz0⟩ := hfk 0 9 0 rfl
      obtain ⟨z1, ez1, wz1⟩ := hfk 1 29 1 rfl
      have hl12 : cs'.length = 12 := by rw [hlk]; kernel_rfl
      obtain ⟨b0, br, rfl⟩ : ∃ b0 br, cs' = b0 :: br := by cases cs' with
        | nil => simp at hl12
        | cons b r => exact ⟨b, r, rfl⟩
      have kT : Tryz.prog.cellsOf 29 = 11 := by kernel_rfl
      simp only [k6, kT, List.drop_succ_cons, List.drop_zero, List.take_succ_cons, List.take_zero] at ez0 ez1
      rw [List.take_of_length_le (by simp at hl12; omega)] at ez1
      obtain ⟨s, es, rfl, -⟩ := DataW.trod_string Tryz.underlying9 ez0
      have hs := str_wok wz0
      injection es with es
      subst es
      obtain ⟨T, hT⟩ := ih k (by omega) br _ ez1 wz1
      exact ⟨(s, T), br, rfl, hs, hT⟩)
    injection q0 with q0; injection q1 with q1; injection q2 with q2; injection q3 with q3; injection q4 with q4; injection q5 with q5; injection q6 with q6; injection q7 with q7; injection q8 with q8
    subst q0 q1 q2 q3 q4 q5 q6 q7 q8
    obtain ⟨n9, q9, rfl, -⟩ := DataW.trod_string Tryz.underlying9 e9
    have g9 := str_wok w9
    obtain ⟨n10, q10, -, g10⟩ := DataW.trod_int Tryz.underlying3 e10
    injection q9 with q9; injection q10 with q10
    subst q9 q10
    have b7 : Tryz.prog.bytesOf 29 = 152 := by kernel_rfl
    have b8 : Tryz.prog.bytesOf 34 = 168 := by kernel_rfl
    rw [b7] at h7
    rw [b8] at h8
    refine ⟨.mk n0 n1 n2 n3 n4 n5 n6 n7 n8 n9 n10, ⟨A5, m5, A7, m7, A8, m8, rfl, i64_wf g0, i64_wf g2, g4, h5, ⟨g5, r5⟩, (u64_wf g6).1, (u64_wf g6).2, g9, i64_wf g10, ⟨h7, r7.imp id ?_⟩, ⟨h8, r8.imp id ?_⟩⟩, g3, ?_, ?_⟩
    · rintro ⟨b, off, hA, hlt, hr⟩
      exact ⟨b, off, hA, hlt, RdTL.iff.2 fun i x hx => by obtain ⟨v, h1, h2⟩ := hr i x hx; exact ⟨v, h1, h2.1⟩⟩
    · rintro ⟨b, off, hA, hlt, hr⟩
      refine ⟨b, off, hA, hlt, RdTD.iff.2 fun i p hp => ?_⟩
      obtain ⟨v, hv, y, rfl, hs, hT⟩ := hr i p hp
      refine ⟨by simpa using hv 0 _ rfl, hs, y, fun j u hj => ?_, hT.1⟩
      have := hv (j + 1) u (by simpa using hj)
      rwa [show off + i * 12 + (j + 1) = off + i * 12 + 1 + j by omega] at this
    · rcases r7 with rfl | ⟨b, off, hA, hlt, hr⟩
      · exact trivial
      · exact FltTL.of fun x hx => by
          obtain ⟨i, hi⟩ := List.mem_iff_getElem?.1 hx
          obtain ⟨v, -, h2⟩ := hr i x hi
          exact h2.2
    · rcases r8 with rfl | ⟨b, off, hA, hlt, hr⟩
      · exact trivial
      · exact FltTD.of fun x hx => by
          obtain ⟨i, hi⟩ := List.mem_iff_getElem?.1 hx
          obtain ⟨v, -, y, -, -, h2⟩ := hr i x hi
          exact h2.2
end
theorem ite_flt {c : Prop} [Decidable c] {a b : V} (ha : FltV a) (hb : FltV b) : FltV (if c then a else b) := by by_cases h : c; rw [if_pos h]; exact ha; rw [if_neg h]; exact hb
theorem flt_built (T : Tm) : FltT T → FltV (builtV T) := by
  induction T using Tm.ind with
  | h k b i f t bs r l d c v hl hd =>
    rintro ⟨h1, h2, h3⟩
    have e1 : FltL (builtL l) := by
      clear hd h3
      induction l with
      | nil => trivial
      | cons x r ih => exact ⟨hl x List.mem_cons_self h2.1, ih (fun y hy => hl y (List.mem_cons_of_mem _ hy)) h2.2⟩
    have e2 : FltD (builtD d) := by
      clear hl h2 e1
      induction d with
      | nil => trivial
      | cons x r ih => obtain ⟨n, x⟩ := x; exact ⟨hd (n, x) List.mem_cons_self h3.1, ih (fun y hy => hd y (List.mem_cons_of_mem _ hy)) h3.2⟩
    unfold builtV
    exact ite_flt trivial (ite_flt trivial (ite_flt trivial (ite_flt h1 (ite_flt trivial (ite_flt trivial (ite_flt trivial (ite_flt e1 (ite_flt e2 (ite_flt e2 (ite_flt trivial trivial))))))))))
end Go.Proofs.YtobpkelblpdajaaGreatDoor
/- Walks: the document's Dec and Int. -/
namespace Go.Proofs.YtobpkelblpdajaaGreatDoor
open Go Go.RowKit
end Go.Proofs.YtobpkelblpdajaaGreatDoor
/- Walk: the document's digits to the base 16. -/
namespace Go.Proofs.YtobpkelblpdajaaGreatDoor
open Go Go.RowKit
end Go.Proofs.YtobpkelblpdajaaGreatDoor
