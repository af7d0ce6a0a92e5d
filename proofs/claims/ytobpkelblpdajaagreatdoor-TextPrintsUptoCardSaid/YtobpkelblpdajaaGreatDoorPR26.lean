/- What the arguments hold, out of their readings: terms. -/
import Derived.Test.YtobpkelblpdajaaGreatDoorPR07
import Derived.ChangeArms
import Derived.Deep.Slices
import Derived.ChangeOld
import GoSem.ClaimJoined
import Derived.Test.YtobpkelblpdajaaGreatDoorPR22
import Derived.Test.YtobpkelblpdajaaGreatDoorPR25
set_option linter.unusedVariables false
set_option linter.unusedSimpArgs false
set_option linter.unusedSectionVars false
namespace Go.Proofs.YtobpkelblpdajaaGreatDoor
open Go Go.RowKit
theorem list_of {α : Type} {Q : Nat → α → Prop} : ∀ {n : Nat}, (∀ i, i < n → ∃ a, Q i a) → ∃ l : List α, l.length = n ∧ ∀ i x, l[i]? = some x → Q i x
  | 0, _ => ⟨[], rfl, fun i x h => by simp at h⟩
  | n + 1, h => by
    obtain ⟨l, hl, hq⟩ := list_of (n := n) fun i hi => h i (by omega)
    obtain ⟨a, ha⟩ := h n (by omega)
    refine ⟨l ++ [a], by simp [hl], fun i x hx => ?_⟩
    by_cases hi : i < n
    · rw [List.getElem?_append_left (by omega)] at hx; exact hq i x hx
    · have h1 : i = n := by have := (List.getElem?_eq_some_iff.1 hx).1; simp at this; omega
      subst h1
      rw [List.getElem?_append_right (by omega), hl] at hx
      simp at hx; subst hx; exact ha
section
variable {H : Type} {enc : TypeId × Value → H} {P : Program} {w : World} {held : Bool}
/- No part weighs more than what memory can hold. -/
def Wok (P : Program) (t : TypeId) (d : DataW H) : Prop := ∀ n ∈ d.weights P t, n ≤ reachBytes
theorem weightsAll_mem {e : TypeId} {d : DataW H} : ∀ {l : List (DataW H)}, d ∈ l → ∀ n ∈ d.weights P e, n ∈ DataW.weightsAll P e l
  | x :: r, h, n, hn => by
    rw [DataW.weightsAll, List.mem_append]
    rcases List.mem_cons.1 h with rfl | h
    · exact .inl hn
    · exact .inr (weightsAll_mem h n hn)
theorem weightsEach_mem {t : TypeId} {d : DataW H} : ∀ {ts : List TypeId} {l : List (DataW H)} {i : Nat}, ts[i]? = some t → l[i]? = some d → ∀ n ∈ d.weights P t, n ∈ DataW.weightsEach P ts l
  | u :: ts, x :: l, 0, h1, h2, n, hn => by
    simp at h1 h2; subst h1; subst h2
    rw [DataW.weightsEach, List.mem_append]; exact .inl hn
  | u :: ts, x :: l, i + 1, h1, h2, n, hn => by
    rw [DataW.weightsEach, List.mem_append]
    exact .inr (weightsEach_mem (i := i) (by simpa using h1) (by simpa using h2) n hn)
  | [], _, i, h1, _, _, _ => by simp at h1
  | _ :: _, [], i, _, h2, _, _ => by simp at h2
theorem open_field {t : TypeId} {fs : Array Field} {fuel : Nat} {cs : List Value} {x : DataW H × List MemPlace} (ht : P.underlying t = some (.struct fs)) (h : DataW.trod enc P w 0 (fun _ => true) held fuel t cs = some x) (hw : Wok P t x.1) :
    ∃ n, fuel = n + 1 ∧ cs.length = P.cellsOf t ∧ ∀ (i : Nat) (ty : TypeId) (o : Nat), (fs[i]?).map (fun f => (f.type, f.offset)) = some (ty, o) → ∃ y, DataW.trod enc P w 0 (fun _ => true) held n ty ((cs.drop o).take (P.cellsOf ty)) = some y ∧ Wok P ty y.1 := by
  obtain ⟨xs, n, rfl, rfl, hl, hlen, hf⟩ := DataW.trod_struct ht h
  refine ⟨n, rfl, hl, fun i ty o hi => ?_⟩
  obtain ⟨f, hfi, hfo⟩ := Option.map_eq_some_iff.1 hi
  clear hi
  injection hfo with h1 h2
  subst h1; subst h2
  have hlt : i < xs.length := by rw [hlen]; exact (Array.getElem?_eq_some_iff.1 hfi).1
  refine ⟨xs[i], by rw [hf i f hfi, List.getElem?_eq_getElem hlt], fun m hm => hw m ?_⟩
  show m ∈ DataW.weights P t (.agg (xs.map (·.1)))
  rw [DataW.weights, ht]
  exact weightsEach_mem (i := i) (by simp [hfi]) (by simp [hlt]) m hm
theorem open_list {α : Type} {t e : TypeId} {C : Nat} {fuel : Nat} {cs : List Value} {x : DataW H × List MemPlace} (Pa : α → List Value → Prop) (ht : P.underlying t = some (.slice e)) (hC : P.cellsOf e = C) (hC0 : 0 < C)
    (h : DataW.trod enc P w 0 (fun _ => true) held fuel t cs = some x) (hw : Wok P t x.1) (ih : ∀ n, n < fuel → ∀ cs' y, DataW.trod enc P w 0 (fun _ => true) held n e cs' = some y → Wok P e y.1 → ∃ a, Pa a cs') :
    ∃ A c, ∃ l : List α, cs = [.slice A l.length c] ∧ (A = none → c = 0) ∧ l.length * P.bytesOf e ≤ reachBytes ∧ (l = [] ∨ ∃ b off, A = some ⟨b, off, none⟩ ∧ b < w.heap.size ∧ ∀ (i : Nat) x, l[i]? = some x → ∃ v, Lie w b (off + i * C) v ∧ Pa x v) := by
  rcases DataW.trod_slice ht h with ⟨rfl, rfl⟩ | ⟨a, len, cap, elems, rest, n, rfl, rfl, rfl, hb, hl, hm, hlen, hel, -, -⟩
  · exact ⟨none, 0, [], rfl, fun _ => rfl, by simp, .inl rfl⟩
  have hbytes : len * P.bytesOf e ≤ reachBytes := by
    have := hw ((elems.length + rest.length) * P.bytesOf e) (by show _ ∈ DataW.weights P t (.slice _ _); rw [DataW.weights, ht]; simp)
    rw [hlen] at this
    exact Nat.le_trans (Nat.mul_le_mul_right _ (Nat.le_add_right _ _)) this
  have key : ∀ i, i < len → ∃ v x, Pa x v ∧ v.length = C ∧ ∀ j, j < C → w.cell? (a.add (i * C + j)) = v[j]? := by
    intro i hi
    have h1 := hel i hi
    rw [List.getElem?_eq_getElem (by omega), hC] at h1
    obtain ⟨v, hv, hv2⟩ := Option.bind_eq_some_iff.1 h1
    obtain ⟨_, hvl, hvc⟩ := World.cells?_some hv
    obtain ⟨x, hx⟩ := ih n (by omega) v _ hv2 (fun m hm => hw m (by
      show m ∈ DataW.weights P t (.slice _ _)
      rw [DataW.weights, ht]
      exact List.mem_cons_of_mem _ (List.mem_append_left _ (weightsAll_mem (List.mem_map.2 ⟨elems[i], List.getElem_mem _, rfl⟩) m hm))))
    refine ⟨v, x, hx, hvl, fun j hj => ?_⟩
    have := hvc j hj
    rw [← Deep.add_add]
    exact this
  by_cases h0 : len = 0
  · subst h0
    exact ⟨some a, cap, [], rfl, by simp, by simp, .inl rfl⟩
  obtain ⟨v0, x0, _, hv0, hc0⟩ := key 0 (by omega)
  have hcell := hc0 0 hC0
  rw [List.getElem?_eq_getElem (by omega)] at hcell
  obtain ⟨b, off, spot⟩ := a
  have hself : Addr.add ⟨b, off, spot⟩ 0 = ⟨b, off, spot⟩ := by unfold Addr.add; simp
  have hspot : spot = none := by
    rw [show (0 * C + 0) = 0 by omega, hself] at hcell
    unfold World.cell? at hcell
    simp only at hcell
    split at hcell
    · cases spot with
      | none => rfl
      | some s => simp at hcell
    · cases hcell
  subst hspot
  have hadd : ∀ k, (Addr.add ⟨b, off, none⟩ k) = ⟨b, off + k, none⟩ := fun k => by unfold Addr.add; by_cases hk : k = 0 <;> simp [hk]
  rw [hadd] at hcell
  obtain ⟨l, hll, hlq⟩ := list_of (Q := fun i (x : α) => ∃ v, Lie w b (off + i * C) v ∧ Pa x v) (n := len) fun i hi => by
    obtain ⟨v, x, hx, hvl, hc⟩ := key i hi
    refine ⟨x, v, fun j y hj => ?_, hx⟩
    have hjl : j < C := by rw [← hvl]; exact (List.getElem?_eq_some_iff.1 hj).1
    have := hc j hjl
    rw [hadd, hj] at this
    rw [Nat.add_assoc]
    exact this
  exact ⟨_, cap, l, by rw [hll], by simp, by rw [hll]; exact hbytes, .inr ⟨b, off, rfl, World.block_lt_of_cell? _ _ hcell, hlq⟩⟩
end
theorem str_wok {H : Type} {P : Program} {t : TypeId} {s : ByteArray} (h : Wok (H := H) P t (.lit (.string s.data.toList))) : s.size ≤ 140737488351232 := by
  have := h s.data.toList.length (by rw [DataW.weights]; simp)
  simpa [reachBytes] using this
theorem i64_wf {n : Int} (h : (Lit.int .i64 n).wf = true) : i64B n := by
  simp [Lit.wf, IntKind.min, IntKind.max, IntKind.signed, IntKind.bits] at h
  exact h
theorem u64_wf {n : Int} (h : (Lit.int .u64 n).wf = true) : 0 ≤ n ∧ n ≤ 18446744073709551615 := by
  simp [Lit.wf, IntKind.min, IntKind.max, IntKind.signed, IntKind.bits] at h
  exact h
theorem u8_wf {n : Int} (h : (Lit.int .u8 n).wf = true) : ∃ u : UInt8, n = (u.toNat : Int) := by
  simp [Lit.wf, IntKind.min, IntKind.max, IntKind.signed, IntKind.bits] at h
  refine ⟨UInt8.ofNat n.toNat, ?_⟩
  rw [UInt8.toNat_ofNat']
  omega
section
variable {H : Type} {enc : TypeId × Value → H} {w : World} {held : Bool}
theorem open_bytes {fuel : Nat} {cs : List Value} {x : DataW H × List MemPlace} (h : DataW.trod enc Tryz.prog w 0 (fun _ => true) held fuel 23 cs = some x) (hw : Wok Tryz.prog 23 x.1) :
    ∃ A c, ∃ l : List UInt8, cs = [.slice A l.length c] ∧ (A = none → c = 0) ∧ l.length ≤ 140737488351232 ∧ ByteRow w (fun b => b < w.heap.size) A l := by
  obtain ⟨A, c, l, h1, h2, h3, h4⟩ := open_list (α := UInt8) (C := 1) (fun u v => v = [.int .u8 (u.toNat : Int)]) Tryz.underlying23 (by kernel_rfl) (by omega) h hw (fun n _ cs' y hy _ => by
    obtain ⟨m, rfl, _, hwf⟩ := DataW.trod_int Tryz.underlying5 hy
    obtain ⟨u, rfl⟩ := u8_wf hwf
    exact ⟨u, rfl⟩)
  have hb : Tryz.prog.bytesOf 5 = 1 := by kernel_rfl
  rw [hb, Nat.mul_one] at h3
  refine ⟨A, c, l, h1, h2, h3, h4.imp id ?_⟩
  rintro ⟨b, off, hA, hlt, hr⟩
  refine ⟨b, off, hA, hlt, fun i x hx => ?_⟩
  obtain ⟨v, hv, rfl⟩ := hr i x hx
  have := hv 0 _ rfl
  simpa using this
theorem eleven_of {cs : List Value} (h : cs.length = 11) : ∃ c0 c1 c2 c3 c4 c5 c6 c7 c8 c9 c10, cs = [c0, c1, c2, c3, c4, c5, c6, c7, c8, c9, c10] := by
  match cs, h with
  | [c0, c1, c2, c3, c4, c5, c6, c7, c8, c9, c10], _ => exact ⟨c0, c1, c2, c3, c4, c5, c6, c7, c8, c9, c10, rfl⟩
end
end Go.Proofs.YtobpkelblpdajaaGreatDoor
/- The floats of a term that an input brings have 64 bits. -/
namespace Go.Proofs.YtobpkelblpdajaaGreatDoor
open Go Go.RowKit
mutual
def FltT : Tm → Prop
  | .mk _ _ _ f _ _ _ l d _ _ => f < 18446744073709551616 ∧ FltTL l ∧ FltTD d
def FltTL : List Tm → Prop
  | [] => True
  | x :: r => FltT x ∧ FltTL r
def FltTD : List (ByteArray × Tm) → Prop
  | [] => True
  | (_, x) :: r => FltT x ∧ FltTD r
end
theorem FltTL.of {l : List Tm} (h : ∀ x ∈ l, FltT x) : FltTL l := by
  induction l with
  | nil => trivial
  | cons x r ih => exact ⟨h x (by simp), ih fun y hy => h y (by simp [hy])⟩
theorem FltTD.of {l : List (ByteArray × Tm)} (h : ∀ p ∈ l, FltT p.2) : FltTD l := by
  induction l with
  | nil => trivial
  | cons x r ih =>
    obtain ⟨n, x⟩ := x
    exact ⟨h (n, x) (by simp), ih fun y hy => h y (by simp [hy])⟩
section
variable {H : Type} {enc : TypeId × Value → H} {P : Program} {w : World} {held : Bool}
theorem trod_floatF {t : TypeId} {fuel : Nat} {cs : List Value} {x : DataW H × List MemPlace} (ht : P.underlying t = some (.float .f64)) (h : DataW.trod enc P w 0 (fun _ => true) held fuel t cs = some x) : ∃ b, cs = [.float .f64 b] ∧ b < 18446744073709551616 := by
  cases fuel with
  | zero => simp [DataW.trod] at h
  | succ n =>
    unfold DataW.trod at h
    rw [ht] at h
    rcases cs with _ | ⟨c, _ | ⟨c2, r⟩⟩
    · simp at h
    · cases c <;> simp at h
      rename_i k' b
      obtain ⟨⟨h1, h2⟩, -⟩ := h
      subst h1
      exact ⟨b, rfl, by simpa [Lit.wf] using h2⟩
    · cases c <;> simp at h
set_option maxRecDepth 100000 in
theorem open_tmF : ∀ (fuel : Nat) (cs : List Value) (x : DataW H × List MemPlace), DataW.trod enc Tryz.prog w 0 (fun _ => true) held fuel 29 cs = some x → Wok Tryz.prog 29 x.1 → ∃ T, RdT w w.heap.size T cs ∧ FltT T := by
  intro fuel
  induction fuel using Nat.strongRecOn with
  | _ fuel ih =>
    intro cs x h hw
    obtain ⟨n, rfl, hlen, hf⟩ := open_field Tryz.underlying29 h hw
    obtain ⟨c0, c1, c2, c3, c4, c5, c6, c7, c8, c9, c10, rfl⟩ := eleven_of (cs := cs) (by rw [hlen]; kernel_rfl)
    have k2 : Tryz.prog.cellsOf 3 = 1 := by kernel_rfl
    have k3 : Tryz.prog.cellsOf 4 = 1 := by kernel_rfl
    have k4 : Tryz.prog.cellsOf 2 = 1 := by kernel_rfl
    have k5 : Tryz.prog.cellsOf 22 = 1 := by kernel_rfl
    have k6 : Tryz.prog.cellsOf 9 = 1 := by kernel_rfl
    have k7 : Tryz.prog.cellsOf 23 = 1 := by kernel_rfl
    have k8 : Tryz.prog.cellsOf 25 = 1 := by kernel_rfl
    have k9 : Tryz.prog.cellsOf 26 = 1 := by kernel_rfl
    have k10 : Tryz.prog.cellsOf 27 = 1 := by kernel_rfl
    obtain ⟨y0, e0, w0⟩ := hf 0 3 0 rfl
    obtain ⟨y1, e1, w1⟩ := hf 1 4 1 rfl
    obtain ⟨y2, e2, w2⟩ := hf 2 2 2 rfl
    obtain ⟨y3, e3, w3⟩ := hf 3 22 3 rfl
    obtain ⟨y4, e4, w4⟩ := hf 4 9 4 rfl
    obtain ⟨y5, e5, w5⟩ := hf 5 23 5 rfl
    obtain ⟨y6, e6, w6⟩ := hf 6 25 6 rfl
    obtain ⟨y7, e7, w7⟩ := hf 7 26 7 rfl
    obtain ⟨y8, e8, w8⟩ := hf 8 27 8 rfl
    obtain ⟨y9, e9, w9⟩ := hf 9 9 9 rfl
    obtain ⟨y10, e10, w10⟩ := hf 10 3 10 rfl
    simp only [k2, k3, k4, k5, k6, k7, k8, k9, k10, List.drop_succ_cons, List.drop_zero, List.take_succ_cons, List.take_zero] at e0 e1 e2 e3 e4 e5 e6 e7 e8 e9 e10
    obtain ⟨n0, q0, -, g0⟩ := DataW.trod_int Tryz.underlying3 e0
    obtain ⟨n1, q1, -⟩ := DataW.trod_bool Tryz.underlying4 e1
    obtain ⟨n2, q2, -, g2⟩ := DataW.trod_int Tryz.underlying2 e2
    obtain ⟨n3, q3, g3⟩ := trod_floatF Tryz.underlying22 e3
    obtain ⟨n4, q4, rfl, -⟩ := DataW.trod_string Tryz.underlying9 e4
    have g4 := str_wok w4
    obtain ⟨A5, m5, n5, q5, g5, h5, r5⟩ := open_bytes e5 w5
    obtain ⟨n6, q6, -, g6⟩ := DataW.trod_int Tryz.underlying25 e6
    obtain ⟨A7, m7, n7, q7, g7, h7, r7⟩ := open_list (α := Tm) (C := 11) (fun T v => RdT w w.heap.size T v ∧ FltT T) Tryz.underlying26 (by kernel_rfl) (by omega) e7 w7 (fun m hm cs' y hy hwy => ih m (by omega) cs' y hy hwy)
    obtain ⟨A8, m8, n8, q8, g8, h8, r8⟩ := open_list (α := ByteArray × Tm) (C := 12) (fun p v => ∃ y, v = .string p.1 :: y ∧ p.1.size ≤ 140737488351232 ∧ RdT w w.heap.size p.2 y ∧ FltT p.2) Tryz.underlying27 (by kernel_rfl) (by omega) e8 w8 (fun m hm cs' y hy hwy => by
      obtain ⟨k, rfl, hlk, hfk⟩ := open_field Tryz.underlying34 hy hwy
      obtain ⟨z0, ez0, wz0⟩ := hfk 0 9 0 rfl
      obtain ⟨z1, ez1, wz1⟩ := hfk 1 29 1 rfl
      have hl12 : cs'.length = 12 := by rw [hlk]; kernel_rfl
      obtain ⟨b0, br, rfl⟩ : ∃ b0 br, cs' = b0 :: br := by cases cs' with
        | nil => simp at hl12
        | cons b r => exact ⟨b, r, rfl⟩
      have kT : Tryz.prog.cellsOf 29 = 11 := by kernel_rfl
      simp only [k6, kT, List.drop_succ_cons, List.drop_zero, List.take_succ_cons, List.take_zero] at ez0 ez1
      rw [List.take_of_length_le (by simp at hl12; omega)] at ez1
      obtain ⟨s, es, rfl, -⟩ := DataW.trod_string Tryz.underlying9 ez0
      have hs := str_wok wz0
      injection es with es
      subst es
      obtain ⟨T, hT⟩ := ih k (by omega) br _ ez1 wz1
      exact ⟨(s, T), br, rfl, hs, hT⟩)
    injection q0 with q0; injection q1 with q1; injection q2 with q2; injection q3 with q3; injection q4 with q4; injection q5 with q5; injection q6 with q6; injection q7 with q7; injection q8 with q8
    subst q0 q1 q2 q3 q4 q5 q6 q7 q8
    obtain ⟨n9, q9, rfl, -⟩ := DataW.trod_string Tryz.underlying9 e9
    have g9 := str_wok w9
    obtain ⟨n10, q10, -, g10⟩ := DataW.trod_int Tryz.underlying3 e10
    injection q9 with q9; injection q10 with q10
    subst q9 q10
    have b7 : Tryz.prog.bytesOf 29 = 152 := by kernel_rfl
    have b8 : Tryz.prog.bytesOf 34 = 168 := by kernel_rfl
    rw [b7] at h7
    rw [b8] at h8
    refine ⟨.mk n0 n1 n2 n3 n4 n5 n6 n7 n8 n9 n10, ⟨A5, m5, A7, m7, A8, m8, rfl, i64_wf g0, i64_wf g2, g4, h5, ⟨g5, r5⟩, (u64_wf g6).1, (u64_wf g6).2, g9, i64_wf g10, ⟨h7, r7.imp id ?_⟩, ⟨h8, r8.imp id ?_⟩⟩, g3, ?_, ?_⟩
    · rintro ⟨b, off, hA, hlt, hr⟩
      exact ⟨b, off, hA, hlt, RdTL.iff.2 fun i x hx => by obtain ⟨v, h1, h2⟩ := hr i x hx; exact ⟨v, h1, h2.1⟩⟩
    · rintro ⟨b, off, hA, hlt, hr⟩
      refine ⟨b, off, hA, hlt, RdTD.iff.2 fun i p hp => ?_⟩
      obtain ⟨v, hv, y, rfl, hs, hT⟩ := hr i p hp
      refine ⟨by simpa using hv 0 _ rfl, hs, y, fun j u hj => ?_, hT.1⟩
      have := hv (j + 1) u (by simpa using hj)
      rwa [show off + i * 12 + (j + 1) = off + i * 12 + 1 + j by omega] at this
    · rcases r7 with rfl | ⟨b, off, hA, hlt, hr⟩
      · exact trivial
      · exact FltTL.of fun x hx => by
          obtain ⟨i, hi⟩ := List.mem_iff_getElem?.1 hx
          obtain ⟨v, -, h2⟩ := hr i x hi
          exact h2.2
    · rcases r8 with rfl | ⟨b, off, hA, hlt, hr⟩
      · exact trivial
      · exact FltTD.of fun x hx => by
          obtain ⟨i, hi⟩ := List.mem_iff_getElem?.1 hx
          obtain ⟨v, -, y, -, -, h2⟩ := hr i x hi
          exact h2.2
end
theorem ite_flt {c : Prop} [Decidable c] {a b : V} (ha : FltV a) (hb : FltV b) : FltV (if c then a else b) := by by_cases h : c; rw [if_pos h]; exact ha; rw [if_neg h]; exact hb
theorem flt_built (T : Tm) : FltT T → FltV (builtV T) := by
  induction T using Tm.ind with
  | h k b i f t bs r l d c v hl hd =>
    rintro ⟨h1, h2, h3⟩
    have e1 : FltL (builtL l) := by
      clear hd h3
      induction l with
      | nil => trivial
      | cons x r ih => exact ⟨hl x List.mem_cons_self h2.1, ih (fun y hy => hl y (List.mem_cons_of_mem _ hy)) h2.2⟩
    have e2 : FltD (builtD d) := by
      clear hl h2 e1
      induction d with
      | nil => trivial
      | cons x r ih => obtain ⟨n, x⟩ := x; exact ⟨hd (n, x) List.mem_cons_self h3.1, ih (fun y hy => hd y (List.mem_cons_of_mem _ hy)) h3.2⟩
    unfold builtV
    exact ite_flt trivial (ite_flt trivial (ite_flt trivial (ite_flt h1 (ite_flt trivial (ite_flt trivial (ite_flt trivial (ite_flt e1 (ite_flt e2 (ite_flt e2 (ite_flt trivial trivial))))))))))
end Go.Proofs.YtobpkelblpdajaaGreatDoor
/- Walks: the document's Dec and Int. -/
namespace Go.Proofs.YtobpkelblpdajaaGreatDoor
open Go Go.RowKit
theorem conv_one {W : World} {x : Int} {c : UInt8} (hx : x = (c.toNat : Int)) (cap : Nat) : (convert 23 9 (.slice (some ⟨W.heap.size, 0, none⟩) 1 cap)).run Tryz.prog (W.alloc (.cells #[.int .u8 x] 5)) = .ok (.string ⟨#[c]⟩) (W.alloc (.cells #[.int .u8 x] 5)) := by
  subst hx
  exact run_convert_bytes_back (P := Tryz.prog) _ 23 9 5 ⟨W.heap.size, 0, none⟩ cap [c] Tryz.underlying23 Tryz.underlying5 Tryz.underlying9 (fun j hj => by
    have : j = 0 := by simpa using hj
    subst this
    exact news_at (l := [.int .u8 (c.toNat : Int)]) rfl 0 _ rfl)
set_option maxRecDepth 100000 in
set_option maxHeartbeats 2000000 in
theorem dec_any : ∀ (u : Nat), u < 18446744073709551616 → ∀ w : World, Calls Tryz.prog 76 #[.int .u64 u] w (TextPost (Lib.decDigits u) w) := by
  intro u
  induction u using Nat.strongRecOn with
  | _ u ih =>
    intro hu w
    by_cases h : u < 10
    · obtain ⟨c, hc⟩ : ∃ c, c = UInt8.ofNat (48 + u) := ⟨_, rfl⟩
      have HT : Hid (Lib.decDigits u = [c]) := Lib.hid (by rw [hc]; exact Lib.decDigits_one h)
      have kx : ((48 + u : Nat) : Int) = (c.toNat : Int) := by rw [hc, UInt8.toNat_ofNat']; omega
      have kc := fun cap => conv_one (W := w) (x := 48 + (u : Int)) (c := c) (by rw [← kx]; omega) cap
      have hq : (u : Int) < 10 := by omega
      have k1 : IntKind.u64.wrap (48 + (u : Int)) = 48 + (u : Int) := by rw [IntKind.wrap_u64]; omega
      have k2 : IntKind.u8.wrap (48 + (u : Int)) = 48 + (u : Int) := by rw [IntKind.wrap_u8]; omega
      clear ih kx hc
      go_enter Tryz.func76, Tryz.ntmps76
      go_wp2
      go_ret
      exact ⟨by rw [HT.out]; rfl, (Below.refl _ _).alloc (Nat.le_refl _) _⟩
    · have HT : Hid (Lib.decDigits u = Lib.decDigits (u / 10) ++ Lib.decDigits (u % 10)) := Lib.hid (by
        rw [Lib.decDigits, dif_neg h, Lib.decDigits_one (Nat.mod_lt u (by decide))])
      have H1 := Lib.hid (fun (x : Int) (hx : x = ((u / 10 : Nat) : Int)) (W : World) => (by rw [hx]; exact ih (u / 10) (by omega) (by omega) W : Calls Tryz.prog 76 #[.int .u64 x] W (TextPost (Lib.decDigits (u / 10)) W)))
      have H2 := Lib.hid (fun (x : Int) (hx : x = ((u % 10 : Nat) : Int)) (W : World) => (by rw [hx]; exact ih (u % 10) (by omega) (by omega) W : Calls Tryz.prog 76 #[.int .u64 x] W (TextPost (Lib.decDigits (u % 10)) W)))
      have l1 : (Lib.decDigits (u / 10)).length ≤ 20 := by rw [Lib.decDigits_length]; exact Lib.nDigits_le20 _ (by omega)
      have l2 : (Lib.decDigits (u % 10)).length ≤ 20 := by rw [Lib.decDigits_length]; exact Lib.nDigits_le20 _ (by omega)
      have hq : ¬ (u : Int) < 10 := by omega
      generalize Lib.decDigits (u / 10) = L1 at *
      generalize Lib.decDigits (u % 10) = L2 at *
      have s1 : (⟨L1.toArray⟩ : ByteArray).size = L1.length := by simp [ByteArray.size]
      have s2 : (⟨L2.toArray⟩ : ByteArray).size = L2.length := by simp [ByteArray.size]
      have HNl : ¬ (9223372036854775807 < L1.length + L2.length) := by omega
      clear ih
      go_enter Tryz.func76, Tryz.ntmps76
      go_wp2_with fail
      refine (H1.out _ ?hx w).mono ?_
      case hx => omega
      rintro e w1 ⟨rfl, hb1⟩
      go_wp2_with fail
      refine (H2.out _ ?hy w1).mono ?_
      case hy => omega
      rintro e w2 ⟨rfl, hb2⟩
      go_wp2
      go_ret
      exact ⟨by rw [HT.out]; congr 2, hb1.trans (hb2.mono hb1.size)⟩
set_option maxRecDepth 100000 in
set_option maxHeartbeats 2000000 in
theorem rint_any (n : Int) (h0 : -9223372036854775808 ≤ n) (h1 : n ≤ 9223372036854775807) (w : World) : Calls Tryz.prog 183 #[.int .i64 n] w (TextPost (Lib.itoa n) w) := by
  by_cases hn : n < 0
  · have HT : Hid (Lib.itoa n = 45 :: Lib.decDigits n.natAbs) := Lib.hid (by unfold Lib.itoa; rw [if_pos hn])
    have k1 : IntKind.u64.wrap n = n + 18446744073709551616 := by rw [IntKind.wrap_u64]; omega
    have k2 : IntKind.u64.wrap (-(n + 18446744073709551616)) = -n := by rw [IntKind.wrap_u64]; omega
    have H1 := Lib.hid (fun (x : Int) (hx : x = (n.natAbs : Int)) => (by rw [hx]; exact dec_any n.natAbs (by omega) w : Calls Tryz.prog 76 #[.int .u64 x] w (TextPost (Lib.decDigits n.natAbs) w)))
    have l1 : (Lib.decDigits n.natAbs).length ≤ 20 := by rw [Lib.decDigits_length]; exact Lib.nDigits_le20 _ (by omega)
    generalize Lib.decDigits n.natAbs = L1 at *
    have s1 : (⟨L1.toArray⟩ : ByteArray).size = L1.length := by simp [ByteArray.size]
    have HNl : ¬ (9223372036854775807 < 1 + L1.length) := by omega
    go_enter Tryz.func183, Tryz.ntmps183
    go_wp2_with fail
    refine (H1.out _ ?hx).mono ?_
    case hx => omega
    rintro e w1 ⟨rfl, hb1⟩
    go_wp2
    go_ret
    exact ⟨by rw [HT.out]; congr 2, hb1⟩
  · have HT : Hid (Lib.itoa n = Lib.decDigits n.toNat) := Lib.hid (by unfold Lib.itoa; rw [if_neg hn])
    have k1 : IntKind.u64.wrap n = n := by rw [IntKind.wrap_u64]; omega
    have H1 := Lib.hid (fun (x : Int) (hx : x = (n.toNat : Int)) => (by rw [hx]; exact dec_any n.toNat (by omega) w : Calls Tryz.prog 76 #[.int .u64 x] w (TextPost (Lib.decDigits n.toNat) w)))
    generalize Lib.decDigits n.toNat = L1 at *
    go_enter Tryz.func183, Tryz.ntmps183
    go_wp2_with fail
    refine (H1.out _ ?hx).mono ?_
    case hx => omega
    rintro e w1 ⟨rfl, hb1⟩
    go_wp2
    go_ret
    exact ⟨by rw [HT.out]; rfl, hb1⟩
end Go.Proofs.YtobpkelblpdajaaGreatDoor
/- Walk: the document's digits to the base 16. -/
namespace Go.Proofs.YtobpkelblpdajaaGreatDoor
open Go Go.RowKit
theorem digit_at (n j : Nat) : ((n : Int) / 2 ^ (4 * j)).tmod 16 = ((n / 16 ^ j % 16 : Nat) : Int) := by
  rw [Int.pow_mul, show ((2 : Int) ^ 4) = 16 from rfl]
  rw [show ((16 : Int) ^ j) = ((16 ^ j : Nat) : Int) by simp]
  rw [Int.tmod_eq_emod_of_nonneg (Int.ediv_nonneg (Int.natCast_nonneg _) (Int.natCast_nonneg _))]
  norm_cast
theorem hexD_at (q : Nat) (hq : q < 16) : ∀ h, (⟨#[48, 49, 50, 51, 52, 53, 54, 55, 56, 57, 97, 98, 99, 100, 101, 102]⟩ : ByteArray)[q]'h = hexc q := by
  have : ∀ q : Fin 16, (#[48, 49, 50, 51, 52, 53, 54, 55, 56, 57, 97, 98, 99, 100, 101, 102] : Array UInt8)[q.val]'(q.isLt) = hexc q.val := by decide +kernel
  exact fun _ => this ⟨q, hq⟩
set_option maxRecDepth 100000 in
set_option maxHeartbeats 2000000 in
theorem digits_any (n m : Nat) (hm : m ≤ 16) (hm1 : 1 ≤ m) (w : World) : Calls Tryz.prog 75 #[.int .u64 n, .int .i64 m] w (TextPost (hexN m n) w) := by
  obtain ⟨i0, hi0, hz0, hz1, hz2⟩ := info_parts Tryz.infoByte
  have hw0 : IntKind.i64.wrap ((m : Int) - 1) = (m : Int) - 1 := by rw [IntKind.wrap_i64]; omega
  go_enter Tryz.func75, Tryz.ntmps75
  go_wp2
  go_loopw [5, 6] (fun v jx wr => ∃ (k : Nat) (l : List UInt8), jx = .int .i64 ((m : Int) - 1 - k) ∧ k ≤ m ∧ Below w.heap.size w wr ∧ l.length = k ∧ OwnB wr w.heap.size v l ∧ Hid (l ++ hexN (m - k) n = hexN m n)) (fun _ jx _ => (intOf jx + 1).toNat)
  case atStart => exact ⟨0, [], by simp, by omega, Below.refl _ _, rfl, OwnB.nil _ _, Lib.hid rfl⟩
  case round =>
    obtain ⟨k, l, rfl, hk, hb, hl, ho, HD⟩ := hrel
    by_cases hlt : k < m
    · have hq := digit_at n (m - 1 - k)
      have hpw : (0:Nat) < 16 ^ (m - 1 - k) := Nat.pow_pos (by omega)
      have hq16 : n / 16 ^ (m - 1 - k) % 16 < 16 := Nat.mod_lt _ (by decide)
      have HD2 : Hid ((l ++ [hexc (n / 16 ^ (m - 1 - k) % 16)]) ++ hexN (m - (k + 1)) n = hexN m n) := Lib.hid (by
        rw [← HD.out, show m - k = (m - 1 - k) + 1 by omega, hexN, show m - (k + 1) = m - 1 - k by omega]; simp)
      have hx := hexD_at (n / 16 ^ (m - 1 - k) % 16) hq16
      generalize n / 16 ^ (m - 1 - k) % 16 = q at *
      generalize hexc q = x at *
      have hx' : ∀ h, (⟨#[48, 49, 50, 51, 52, 53, 54, 55, 56, 57, 97, 98, 99, 100, 101, 102]⟩ : ByteArray)[q]'h = x := hx
      obtain ⟨A1, c1, rfl⟩ : ∃ A1 c1, u5 = .slice A1 k c1 := by
        rcases ho.2 with ⟨rfl, h0⟩ | ⟨g, cap, cur, rfl, _⟩
        · have : k = 0 := by omega
          subst this; exact ⟨_, _, rfl⟩
        · exact ⟨_, _, by rw [hl]⟩
      have hwk : IntKind.i64.wrap ((m : Int) - 1 - k - 1) = (m : Int) - 1 - k - 1 := by rw [IntKind.wrap_i64]; omega
      have hba : Below wr.heap.size wr (wr.alloc (.cells #[.int .u8 (x.toNat : Int)] 5)) := (Below.refl _ _).alloc (Nat.le_refl _) _
      have hz := hb.size
      have hz3 : w.heap.size ≤ (wr.alloc (.cells #[.int .u8 (x.toNat : Int)] 5)).heap.size := by simp; omega
      have ho2 := ownsRow_below ho hba
      rw [hl] at ho2
      clear hx HD hpw
      go_wp2_with (at_builtin; go_must (refine wpList_append_lies _ rfl (.tmp 13) (.tmp 20) 23 rfl w.heap.size 5 i0 _ 1 1 Tryz.underlying23 hi0 hz0 hz1 hz2 rfl (by omega) (.slice A1 k c1) k (Lib.byteCells l) rfl ho2 ⟨wr.heap.size, 0, none⟩ 1 1 [.int .u8 (x.toNat : Int)] rfl rfl (news_at rfl) (by simp [Value.oneCell']) (by omega) (by simp only [maxLen]; omega) (by omega) hz3 _ rfl ?_); intro g cap w2 hown2 hg2 hat hlt2)
      refine ⟨⟨k + 1, l ++ [x], by simp; omega, hlt, (hb.trans (hba.mono hz)).grown hg2 hz3 (fun j hj => (ho.lt j hj).1), by simp [hl], OwnB.snoc rfl (by rw [hl]; exact hown2), HD2⟩, ?_⟩
      simp [intOf]
      omega
    · obtain rfl : k = m := by omega
      have HE : Hid (hexN k n = l) := Lib.hid (by rw [← HD.out]; simp [hexN])
      have hcv := conv_any ho
      obtain ⟨A1, c1, rfl⟩ : ∃ A1 c1, u5 = .slice A1 k c1 := by
        rcases ho.2 with ⟨rfl, h0⟩ | ⟨g, cap, cur, rfl, _⟩
        · have : k = 0 := by omega
          subst this; exact ⟨_, _, rfl⟩
        · exact ⟨_, _, by rw [hl]⟩
      clear ho
      go_wp2
      go_ret
      exact ⟨by rw [HE.out]; rfl, hb⟩
end Go.Proofs.YtobpkelblpdajaaGreatDoor
