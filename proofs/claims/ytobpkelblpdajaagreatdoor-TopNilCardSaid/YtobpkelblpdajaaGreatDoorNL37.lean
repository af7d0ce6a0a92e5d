/- A value of a strange type, or a record that is none, deep in a value: what the check tells. Plain. -/
import Derived.Test.YtobpkelblpdajaaGreatDoorNL36
set_option linter.unusedVariables false
set_option linter.unusedSimpArgs false
set_option linter.unusedSectionVars false
namespace Go.Proofs.YtobpkelblpdajaaGreatDoor
open Go Go.RowKit
def nA : ByteArray := ⟨#[97]⟩
theorem fieldsA (x : V) : fieldsV [(nA, x)] = 0 := by
  refine fieldsV_ok (by simp) fun i p hi hp => ?_
  match i, hi with
  | 0, _ => injection hp with hp; subst hp; exact ⟨(by decide : nameB nA.data.toList = true), fun q h => absurd h (by decide)⟩
theorem ownV_mono {x : V} {n n' d d' : Nat} (hn : n' ≤ n) (hd : d' ≤ d) (h : ownV x n d = 0) : ownV x n' d' = 0 := by
  unfold ownV at h ⊢
  split at h
  · cases x <;> cases h
  · rw [if_neg (by omega)]; exact h
/- What passes a check does so less deep and with fewer ahead. -/
def MonoV (x : V) : Prop := ∀ (d d' : Nat) (s s' t : Cnt), d' ≤ d → s'.n ≤ s.n → partV x d s = (true, t) → ∃ t', partV x d' s' = (true, t') ∧ t'.n ≤ t.n
theorem stepV_true {x : V} {d : Nat} {s t : Cnt} {K : Cnt → Bool × Cnt} (h : stepV x d s K = (true, t)) : ownV x s.n d = 0 ∧ K ⟨s.n + 1, max s.deep d, 0⟩ = (true, t) := by
  unfold stepV at h
  split at h
  · rename_i h0; exact ⟨h0, h⟩
  · cases h
theorem mono_leaf {x : V} (hx : ∀ d s, partV x d s = stepV x d s fun t => (true, t)) : MonoV x := by
  intro d d' s s' t hd hn h
  rw [hx] at h
  obtain ⟨h0, h1⟩ := stepV_true h
  refine ⟨⟨s'.n + 1, max s'.deep d', 0⟩, ?_, ?_⟩
  · rw [hx]; unfold stepV; rw [if_pos (ownV_mono hn hd h0)]
  · injection h1 with _ h1; subst h1; show s'.n + 1 ≤ s.n + 1; omega
theorem thenV_y (u : Cnt) (K : Cnt → Bool × Cnt) : thenV (true, u) K = K u := rfl
theorem thenV_n (u : Cnt) (K : Cnt → Bool × Cnt) : thenV (false, u) K = (false, u) := rfl
theorem thenV_true {r : Bool × Cnt} {K : Cnt → Bool × Cnt} {t : Cnt} (h : thenV r K = (true, t)) : ∃ u, r = (true, u) ∧ K u = (true, t) := by
  unfold thenV at h
  obtain ⟨b, u⟩ := r
  cases b
  · cases h
  · exact ⟨u, rfl, h⟩
theorem monoL {l : List V} (ih : ∀ x ∈ l, MonoV x) : ∀ (d d' : Nat) (s s' t : Cnt), d' ≤ d → s'.n ≤ s.n → partL l d s = (true, t) → ∃ t', partL l d' s' = (true, t') ∧ t'.n ≤ t.n := by
  induction l with
  | nil => intro d d' s s' t hd hn h; rw [partL] at h ⊢; injection h with _ h; subst h; exact ⟨s', rfl, hn⟩
  | cons x r ihl =>
    intro d d' s s' t hd hn h
    rw [partL] at h
    obtain ⟨u, hu, hk⟩ := thenV_true h
    obtain ⟨u', hu', hun⟩ := ih x (by simp) d d' s s' u hd hn hu
    obtain ⟨t', ht', htn⟩ := ihl (fun y hy => ih y (by simp [hy])) d d' u u' t hd hun hk
    exact ⟨t', by rw [partL, hu']; exact ht', htn⟩
theorem mono_list {x : V} {l : List V} (hx : ∀ d s, partV x d s = stepV x d s (partL l (d + 1))) (ih : ∀ y ∈ l, MonoV y) : MonoV x := by
  intro d d' s s' t hd hn h
  rw [hx] at h
  obtain ⟨h0, h1⟩ := stepV_true h
  obtain ⟨t', ht', htn⟩ := monoL ih (d + 1) (d' + 1) _ ⟨s'.n + 1, max s'.deep d', 0⟩ t (by omega) (by show s'.n + 1 ≤ s.n + 1; omega) h1
  exact ⟨t', by rw [hx]; unfold stepV; rw [if_pos (ownV_mono hn hd h0)]; exact ht', htn⟩
theorem partV_mono (x : V) : MonoV x := by
  induction x using V.ind with
  | h0 => exact mono_leaf fun d s => by rw [partV]
  | h1 b => exact mono_leaf fun d s => by rw [partV]
  | h2 b => exact mono_leaf fun d s => by rw [partV]
  | h3 b => exact mono_leaf fun d s => by rw [partV]
  | h4 b => exact mono_leaf fun d s => by rw [partV]
  | h5 b => exact mono_leaf fun d s => by rw [partV]
  | h6 b => exact mono_leaf fun d s => by rw [partV]
  | h7 l ih => exact mono_list (fun d s => by rw [partV]) ih
  | h8 l ih => exact mono_list (l := l.map (·.2)) (fun d s => by rw [partV]; congr 1; funext s; exact partD_eq l (d + 1) s) (fun y hy => by obtain ⟨p, hp, rfl⟩ := List.mem_map.1 hy; exact ih p hp)
  | h9 c v l ih => exact mono_list (l := l.map (·.2)) (fun d s => by rw [partV]; congr 1; funext s; exact partD_eq l (d + 1) s) (fun y hy => by obtain ⟨p, hp, rfl⟩ := List.mem_map.1 hy; exact ih p hp)
  | h10 => exact mono_leaf fun d s => by rw [partV]
  | h11 => exact mono_leaf fun d s => by rw [partV]
def around (b x : V) : V := .list [b, .dict [(nA, x)]]
def recA (x : V) : V := .record nA 1 [(nA, x)]
theorem part_around (b x : V) (d : Nat) (s : Cnt) (hs : s.n < 16384) (hd : d ≤ 64) : partV (around b x) d s = thenV (partV b (d + 1) ⟨s.n + 1, max s.deep d, 0⟩) fun u => thenV (partV (.dict [(nA, x)]) (d + 1) u) fun v => (true, v) := by
  unfold around
  rw [partV]
  unfold stepV
  rw [if_pos (by unfold ownV; rw [if_neg (by omega)]; simp)]
  rw [partL]
  congr 1
theorem part_dictA (x : V) (d : Nat) (s : Cnt) (h : ownV (.dict [(nA, x)]) s.n d = 0) : partV (.dict [(nA, x)]) d s = thenV (partV x (d + 1) ⟨s.n + 1, max s.deep d, 0⟩) fun v => (true, v) := by
  rw [partV]
  unfold stepV
  rw [if_pos h, partD]
  congr 1
def badOf (nothing : Bool) : V := if nothing = true then .nothing else .alien
def whyOf (nothing : Bool) : Nat := if nothing = true then 7 else 6
theorem part_bad (k : Bool) (d : Nat) (s : Cnt) : partV (badOf k) d s = (false, { s with why := whyOf k }) := by
  cases k
  · show partV .alien d s = _
    rw [partV]; unfold stepV
    have : ownV .alien s.n d = 6 := by unfold ownV; split <;> rfl
    rw [this, if_neg (by decide)]; rfl
  · show partV .nothing d s = _
    rw [partV]; unfold stepV
    have : ownV .nothing s.n d = 7 := by unfold ownV; split <;> rfl
    rw [this, if_neg (by decide)]; rfl
/- A part that passes, and behind it one that does not: its why is told. -/
theorem around_bad (b : V) (k : Bool) (d : Nat) (s : Cnt) (hs : s.n < 16384) (hd : d ≤ 64) {u : Cnt} (hb : partV b (d + 1) ⟨s.n + 1, max s.deep d, 0⟩ = (true, u)) (hu : ownV (.dict [(nA, .nil)]) u.n (d + 1) = 0) :
    ∃ t, partV (around b (badOf k)) d s = (false, t) ∧ t.why = whyOf k := by
  rw [part_around b _ d s hs hd, hb, thenV_y]
  have hu2 : ownV (.dict [(nA, badOf k)]) u.n (d + 1) = 0 := by
    unfold ownV at hu ⊢
    split at hu
    · cases hu
    · rename_i h; rw [if_neg h]; exact fieldsA _
  rw [part_dictA _ _ _ hu2, part_bad, thenV_n, thenV_n]
  exact ⟨_, rfl, rfl⟩
theorem own_recA (x : V) : ownV (recA x) 0 1 = 0 := by
  unfold recA ownV
  rw [if_neg (by omega)]
  show (if nameB nA.data.toList = false then 8 else if (1 : Int) < 1 ∨ (1000 : Int) < 1 then 1 else fieldsV [(nA, x)]) = 0
  rw [if_neg (by decide), if_neg (by decide)]
  exact fieldsA x
theorem part_recA (x : V) : partV (recA x) 1 ⟨0, 0, 0⟩ = thenV (partV x 2 ⟨1, 1, 0⟩) fun v => (true, v) := by
  have h : ownV (.record nA 1 [(nA, x)]) 0 1 = 0 := own_recA x
  unfold recA
  rw [partV]
  unfold stepV
  rw [if_pos h, partD]
  congr 1
/- What the guard lets in. -/
theorem guard_parts {b : V} (h : (checkV (recA (around b .nil))).2 = 0) : ∃ u, partV b 3 ⟨2, 2, 0⟩ = (true, u) ∧ ownV (.dict [(nA, .nil)]) u.n 3 = 0 := by
  have h1 : (partV (recA (around b .nil)) 1 ⟨0, 0, 0⟩).1 = true := by
    cases hp : (partV (recA (around b .nil)) 1 ⟨0, 0, 0⟩).1
    · rw [checkV_no hp] at h; exact absurd h (bad_why hp)
    · rfl
  obtain ⟨t, ht⟩ : ∃ t, partV (recA (around b .nil)) 1 ⟨0, 0, 0⟩ = (true, t) := ⟨_, Prod.ext h1 rfl⟩
  rw [part_recA] at ht
  obtain ⟨u, hu, -⟩ := thenV_true ht
  rw [part_around b .nil 2 ⟨1, 1, 0⟩ (by decide) (by decide)] at hu
  obtain ⟨v, hv, hv2⟩ := thenV_true hu
  obtain ⟨z, hz, -⟩ := thenV_true hv2
  rw [partV] at hz
  exact ⟨v, hv, (stepV_true hz).1⟩
theorem check_bad (b : V) (k : Bool) (h : (checkV (recA (around b .nil))).2 = 0) : (checkV (around b (badOf k))).2 = whyOf k ∧ (checkV (recA (around b (badOf k)))).2 = whyOf k := by
  obtain ⟨u, hu, ho⟩ := guard_parts h
  constructor
  · obtain ⟨u', hu', hun⟩ := partV_mono b 3 2 ⟨2, 2, 0⟩ ⟨1, 1, 0⟩ u (by decide) (by decide) hu
    obtain ⟨t, ht, hw⟩ := around_bad b k 1 ⟨0, 0, 0⟩ (by decide) (by decide) hu' (ownV_mono hun (by decide) ho)
    rw [checkV_no (by rw [ht]), ht]; exact hw
  · obtain ⟨t, ht, hw⟩ := around_bad b k 2 ⟨1, 1, 0⟩ (by decide) (by decide) hu ho
    have : partV (recA (around b (badOf k))) 1 ⟨0, 0, 0⟩ = (false, t) := by rw [part_recA, ht]; rfl
    rw [checkV_no (by rw [this]), this]; exact hw
theorem guard_nil : (checkV (recA (around .nil .nil))).2 = 0 := by
  have h : (partV (recA (around .nil .nil)) 1 ⟨0, 0, 0⟩).1 = true := by
    rw [part_recA, part_around .nil .nil 2 ⟨1, 1, 0⟩ (by decide) (by decide)]
    have h1 : partV .nil 3 ⟨2, 2, 0⟩ = (true, ⟨3, 3, 0⟩) := by rfl
    have h2 : partV (.dict [(nA, .nil)]) 3 ⟨3, 3, 0⟩ = (true, ⟨5, 4, 0⟩) := by
      rw [part_dictA _ _ _ (by unfold ownV; rw [if_neg (by decide)]; exact fieldsA _)]
      rfl
    show (thenV (thenV (partV .nil 3 ⟨2, 2, 0⟩) _) _).1 = true
    rw [h1]
    unfold thenV
    simp only [if_true, h2]
  rw [checkV_yes h]
end Go.Proofs.YtobpkelblpdajaaGreatDoor
