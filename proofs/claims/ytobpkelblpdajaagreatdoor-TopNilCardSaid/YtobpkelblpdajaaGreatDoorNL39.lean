/- Plain: how memory bears the terms that the law of nil builds; what they are. -/
import Derived.Test.YtobpkelblpdajaaGreatDoorNL37
import Derived.Test.YtobpkelblpdajaaGreatDoorNL38
set_option linter.unusedVariables false
set_option linter.unusedSimpArgs false
set_option linter.unusedSectionVars false
namespace Go.Proofs.YtobpkelblpdajaaGreatDoor
open Go Go.RowKit
def tmC (k : Int) (L F : Value) (c : ByteArray) (v : Int) : List Value := [.int .i64 k, .bool false, .int .i64 0, .float .f64 0, .string ⟨#[]⟩, .slice none 0 0, .int .u64 0, L, F, .string c, .int .i64 v]
def tmK (k : Int) (l : List Tm) (d : List (ByteArray × Tm)) (c : ByteArray) (v : Int) : Tm := .mk k false 0 0 ⟨#[]⟩ [] 0 l d c v
theorem rd_tmC {w : World} {S : Nat → Prop} {k v : Int} {l : List Tm} {d : List (ByteArray × Tm)} {A D : Option Addr} {m n : Nat} {c : ByteArray} (hk : i64B k) (hv : i64B v) (hc : c.size ≤ 140737488351232)
    (hl : l.length * 152 ≤ 140737488351232 ∧ (l = [] ∨ ∃ b off, A = some ⟨b, off, none⟩ ∧ S b ∧ RdTL w S b off l)) (hd : d.length * 168 ≤ 140737488351232 ∧ (d = [] ∨ ∃ b off, D = some ⟨b, off, none⟩ ∧ S b ∧ RdTD w S b off d)) :
    RdTS w S (tmK k l d c v) (tmC k (.slice A l.length m) (.slice D d.length n) c v) :=
  ⟨none, 0, A, m, D, n, rfl, hk, ⟨by decide, by decide⟩, by decide, by decide, ⟨fun _ => rfl, .inl rfl⟩, by decide, by decide, hc, hv, hl, hd⟩
theorem lie_at {w : World} {b off : Nat} {cs : Array Value} {T : TypeId} {fr : Nat × Nat} {x : List Value} (h : w.heap[b]? = some (.cells cs T fr)) (hx : ∀ j y, x[j]? = some y → cs[off + j]? = some y) : Lie w b off x := fun j y hj => by
  rw [Lib.cell_of_heap h]; exact hx j y hj
def innerT : Tm := tmK 9 [] [(nA, tmK 1 [] [] ⟨#[]⟩ 0)] ⟨#[]⟩ 0
def recT (T : Tm) : Tm := tmK 10 [] [(nA, tmK 8 [T, innerT] [] ⟨#[]⟩ 0)] nA 1
theorem built_recT (T : Tm) : builtV (recT T) = recA (around (builtV T) .nil) := by
  unfold recT innerT tmK recA around
  simp [builtV, builtL, builtD]
def nilS : Value := .slice none 0 0
def nilC : List Value := tmC 1 nilS nilS ⟨#[]⟩ 0
def innC (N : Nat) : List Value := tmC 9 nilS (.slice (some ⟨N, 0, none⟩) 1 1) ⟨#[]⟩ 0
def aroC (M : Nat) : List Value := tmC 8 (.slice (some ⟨M, 0, none⟩) 2 2) nilS ⟨#[]⟩ 0
def argC (M : Nat) : List Value := tmC 10 nilS (.slice (some ⟨M, 0, none⟩) 1 1) nA 1
/- The blocks that bear them. -/
theorem le1 : 1 * 168 ≤ 140737488351232 := by decide
theorem le2 : 2 * 152 ≤ 140737488351232 := by decide
theorem leA : nA.size ≤ 140737488351232 := by decide
theorem lf1 : 1 ≤ 1099511627776 := by decide
theorem lf2 : 2 ≤ 1099511627776 := by decide
structure Trees (W : World) (N : Nat) (x : List Value) : Prop where
  b0 : W.heap[N]? = some (.cells (.string nA :: nilC).toArray 34 (0, 0))
  b2 : W.heap[N + 1 + 1]? = some (.cells (x ++ innC N).toArray 29 (0, 0))
  b4 : W.heap[N + 1 + 1 + 1 + 1]? = some (.cells (.string nA :: aroC (N + 1 + 1)).toArray 34 (0, 0))
theorem lt_heap {w : World} {b : Nat} {o : Obj} (h : w.heap[b]? = some o) : b < w.heap.size := (Array.getElem?_eq_some_iff.1 h).1
theorem rd_recT {W : World} {N : Nat} {T : Tm} {x : List Value} (h : Trees W N x) (hl : x.length = 11) (hx : RdT W W.heap.size T x) : RdT W W.heap.size (recT T) (argC (N + 1 + 1 + 1 + 1)) := by
  have h0 : RdTS W (fun b => b < W.heap.size) innerT (innC N) := by
    refine rd_tmC (by constructor <;> decide) (by constructor <;> decide) (by decide) ⟨by decide, .inl rfl⟩ ⟨by decide, .inr ⟨N, 0, rfl, lt_heap h.b0, RdTD.iff.2 fun i p hi => ?_⟩⟩
    match i, hi with
    | 0, hi =>
      injection hi with hi; subst hi
      refine ⟨by rw [Lib.cell_of_heap h.b0]; rfl, by decide, nilC, lie_at h.b0 fun j y hj => ?_, rd_tmC (by constructor <;> decide) (by constructor <;> decide) (by decide) ⟨by decide, .inl rfl⟩ ⟨by decide, .inl rfl⟩⟩
      rw [show 0 + 0 * 12 + 1 + j = j + 1 by omega]
      simpa using hj
  refine rd_tmC (by constructor <;> decide) (by constructor <;> decide) (by decide) ⟨by decide, .inl rfl⟩ ⟨le1, .inr ⟨N + 1 + 1 + 1 + 1, 0, rfl, lt_heap h.b4, RdTD.iff.2 fun i p hi => ?_⟩⟩
  match i, hi with
  | 0, hi =>
    injection hi with hi; subst hi
    refine ⟨by rw [Lib.cell_of_heap h.b4]; rfl, leA, aroC (N + 1 + 1), lie_at h.b4 fun j y hj => ?_, rd_tmC (by constructor <;> decide) (by constructor <;> decide) (by decide) ⟨le2, .inr ⟨N + 1 + 1, 0, rfl, lt_heap h.b2, RdTL.iff.2 fun i q hi => ?_⟩⟩ ⟨by decide, .inl rfl⟩⟩
    · rw [show 0 + 0 * 12 + 1 + j = j + 1 by omega]
      simpa using hj
    · match i, hi with
      | 0, hi =>
        injection hi with hi; subst hi
        refine ⟨x, lie_at h.b2 fun j y hj => ?_, hx⟩
        have hj2 := (List.getElem?_eq_some_iff.1 hj).1
        rw [show 0 + 0 * 11 + j = j by omega]
        simp only [List.getElem?_toArray]
        rw [List.getElem?_append_left hj2]; exact hj
      | 1, hi =>
        injection hi with hi; subst hi
        refine ⟨innC N, lie_at h.b2 fun j y hj => ?_, h0⟩
        rw [show 0 + 1 * 11 + j = 11 + j by omega]
        simp only [List.getElem?_toArray]
        rw [List.getElem?_append_right (by omega), hl, Nat.add_sub_cancel_left]; exact hj
theorem bad_check (T : Tm) (k : Bool) (h : (checkV (builtV (recT T))).2 = 0) : (checkV (around (builtV T) (badOf k))).2 = whyOf k ∧ (checkV (recA (around (builtV T) (badOf k)))).2 = whyOf k := check_bad _ k (by rw [← built_recT]; exact h)
/- The value that the law hands out. -/
theorem rd_around {W : World} {S : Nat → Prop} {b x : V} {vb u : Value} {bl bd : Nat} (hl : W.heap[bl]? = some (.cells #[vb, .iface 41 (.slice (some ⟨bd, 0, none⟩) 1 1)] 20 (0, 0))) (hd : W.heap[bd]? = some (.cells #[.string nA, u] 39 (0, 0))) (hS : S bl ∧ S bd) (hb : RdS W S b vb) (hx : RdS W S x u) :
    RdS W S (around b x) (.iface 43 (.slice (some ⟨bl, 0, none⟩) 2 2)) := by
  refine ⟨some ⟨bl, 0, none⟩, 2, rfl, lf2, ⟨(fun h => by cases h), Nat.le_refl _⟩, .inr ⟨bl, 0, rfl, hS.1, RdL.iff.2 fun i y hi => ?_⟩⟩
  match i, hi with
  | 0, hi => injection hi with hi; subst hi; exact ⟨vb, by rw [Lib.cell_of_heap hl]; rfl, hb⟩
  | 1, hi =>
    injection hi with hi; subst hi
    refine ⟨.iface 41 (.slice (some ⟨bd, 0, none⟩) 1 1), by rw [Lib.cell_of_heap hl]; rfl, some ⟨bd, 0, none⟩, 1, rfl, lf1, .inr ⟨bd, 0, rfl, hS.2, RdD.iff.2 fun i p hi => ?_⟩⟩
    match i, hi with
    | 0, hi => injection hi with hi; subst hi; exact ⟨by rw [Lib.cell_of_heap hd]; rfl, leA, u, by rw [Lib.cell_of_heap hd]; rfl, hx⟩
theorem rd_rec {W : World} {S : Nat → Prop} {x : V} {v : Value} {br bf : Nat} (hr : W.heap[br]? = some (.cells #[.string nA, .int .i64 1, .slice (some ⟨bf, 0, none⟩) 1 1] 75 (0, 0))) (hf : W.heap[bf]? = some (.cells #[.string nA, v] 39 (0, 0))) (hS : S br ∧ S bf) (hx : RdS W S x v) :
    RdS W S (recA x) (.iface 32 (.pointer (some ⟨br, 0, none⟩))) := by
  refine ⟨br, rfl, hS.1, by decide, by rw [Lib.cell_of_heap hr]; rfl, by rw [Lib.cell_of_heap hr]; rfl, by decide, by decide, some ⟨bf, 0, none⟩, 1, by rw [Lib.cell_of_heap hr]; rfl, lf1, .inr ⟨bf, 0, rfl, hS.2, RdD.iff.2 fun i p hi => ?_⟩⟩
  match i, hi with
  | 0, hi => injection hi with hi; subst hi; exact ⟨by rw [Lib.cell_of_heap hf]; rfl, leA, v, by rw [Lib.cell_of_heap hf]; rfl, hx⟩
end Go.Proofs.YtobpkelblpdajaaGreatDoor
