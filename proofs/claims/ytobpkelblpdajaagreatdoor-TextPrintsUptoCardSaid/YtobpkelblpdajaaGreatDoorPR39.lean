/- Walks: the first part that is wrong (the document's Check). -/
import Derived.Test.YtobpkelblpdajaaGreatDoorPR38
set_option linter.unusedVariables false
set_option linter.unusedSimpArgs false
set_option linter.unusedSectionVars false
namespace Go.Proofs.YtobpkelblpdajaaGreatDoor
open Go Go.RowKit
theorem partD_eq (l : List (ByteArray × V)) (d : Nat) : ∀ s, partD l d s = partL (l.map (·.2)) d s := by
  induction l with
  | nil => intro s; rfl
  | cons p r ih =>
    intro s
    obtain ⟨n, x⟩ := p
    rw [partD, List.map_cons, partL]
    unfold thenV
    rw [ih]
theorem part_step (T : Tm) (d : Nat) (s : Cnt) : partV (builtV T) d s = stepV (builtV T) d s (partL ((partsT T).map builtV) (d + 1)) := by
  obtain ⟨k, b, i, f, t, bs, r, l, e, c, v⟩ := T
  have leaf : ∀ x : V, (∀ d s, partV x d s = stepV x d s fun t => (true, t)) → k ≠ 8 → k ≠ 9 → k ≠ 10 → builtV (.mk k b i f t bs r l e c v) = x → partV (builtV (.mk k b i f t bs r l e c v)) d s = stepV (builtV (.mk k b i f t bs r l e c v)) d s (partL ((partsT (.mk k b i f t bs r l e c v)).map builtV) (d + 1)) := by
    intro x hx h8 h9 h10 hb
    have hp : partsT (.mk k b i f t bs r l e c v) = [] := by show (if k = 8 then l else if k = 9 ∨ k = 10 then e.map (·.2) else []) = []; rw [if_neg h8, if_neg (by omega)]
    rw [hp, hb, hx]
    rfl
  by_cases h1 : k = 1
  · exact leaf .nil (fun _ _ => by rw [partV]) (by omega) (by omega) (by omega) (by subst h1; simp [builtV])
  by_cases h2 : k = 2
  · exact leaf (.bool b) (fun _ _ => by rw [partV]) (by omega) (by omega) (by omega) (by subst h2; simp [builtV])
  by_cases h3 : k = 3
  · exact leaf (.int i) (fun _ _ => by rw [partV]) (by omega) (by omega) (by omega) (by subst h3; simp [builtV])
  by_cases h4 : k = 4
  · exact leaf (.flt f) (fun _ _ => by rw [partV]) (by omega) (by omega) (by omega) (by subst h4; simp [builtV])
  by_cases h5 : k = 5
  · exact leaf (.text t) (fun _ _ => by rw [partV]) (by omega) (by omega) (by omega) (by subst h5; simp [builtV])
  by_cases h6 : k = 6
  · exact leaf (.bytes bs) (fun _ _ => by rw [partV]) (by omega) (by omega) (by omega) (by subst h6; simp [builtV])
  by_cases h7 : k = 7
  · exact leaf (.ref r) (fun _ _ => by rw [partV]) (by omega) (by omega) (by omega) (by subst h7; simp [builtV])
  by_cases h8 : k = 8
  · subst h8
    have e1 : builtV (.mk 8 b i f t bs r l e c v) = .list (builtL l) := by simp [builtV]
    have e2 : partsT (.mk 8 b i f t bs r l e c v) = l := by simp [partsT]
    rw [e1, e2, partV, builtL_eq]
  by_cases h9 : k = 9
  · subst h9
    have e1 : builtV (.mk 9 b i f t bs r l e c v) = .dict (builtD e) := by simp [builtV]
    have e2 : partsT (.mk 9 b i f t bs r l e c v) = e.map (·.2) := by simp [partsT]
    rw [e1, e2, partV, builtD_eq]
    congr 1; funext s
    rw [partD_eq, List.map_map, List.map_map]; rfl
  by_cases h10 : k = 10
  · subst h10
    have e1 : builtV (.mk 10 b i f t bs r l e c v) = .record c v (builtD e) := by simp [builtV]
    have e2 : partsT (.mk 10 b i f t bs r l e c v) = e.map (·.2) := by simp [partsT]
    rw [e1, e2, partV, builtD_eq]
    congr 1; funext s
    rw [partD_eq, List.map_map, List.map_map]; rfl
  by_cases h11 : k = 11
  · exact leaf .nothing (fun _ _ => by rw [partV]) h8 h9 h10 (by subst h11; simp [builtV])
  · exact leaf .alien (fun _ _ => by rw [partV]) h8 h9 h10 (by rw [builtV]; rw [if_neg h1, if_neg h2, if_neg h3, if_neg h4, if_neg h5, if_neg h6, if_neg h7, if_neg h8, if_neg h9, if_neg h10, if_neg h11])
/- What is told of the parts that were seen. -/
def seenV (r : Bool × Cnt) : Value := if r.1 = true then .agg #[.int .i64 r.2.n, .int .i64 r.2.deep, .int .i64 0, .int .i64 0] else .agg #[.int .i64 r.2.n, .int .i64 r.2.deep, .int .i64 r.2.n, .int .i64 r.2.why]
def SeenPost (r : Bool × Cnt) (w : World) (e : Ending) (w' : World) : Prop := e = .returned (seenV r) ∧ Below w.heap.size w w'
def RPartC (T : Tm) : Prop := ∀ (x : List Value) (n dp d : Nat) (w : World), RdT w w.heap.size T x → Calls Tryz.prog 46 #[.agg #[.int .i64 n, .int .i64 dp, .int .i64 0, .int .i64 0], termOf x, .int .i64 d] w (SeenPost (partV (builtV T) d ⟨n, dp, 0⟩) w)
theorem partL_cons (x : V) (r : List V) (d : Nat) (s : Cnt) : partL (x :: r) d s = thenV (partV x d s) (partL r d) := by rw [partL]
theorem rpart_why (x : V) : ∀ d s, s.why = 0 → (partV x d s).1 = true → (partV x d s).2.why = 0 := by
  have hL : ∀ l : List V, (∀ x ∈ l, ∀ d s, s.why = 0 → (partV x d s).1 = true → (partV x d s).2.why = 0) → ∀ d s, s.why = 0 → (partL l d s).1 = true → (partL l d s).2.why = 0 := by
    intro l
    induction l with
    | nil => intro _ d s h _; rw [partL]; exact h
    | cons x r ih =>
      intro hl d s h h1
      rw [partL_cons] at h1 ⊢
      cases hx : (partV x d s).1 with
      | false => rw [thenV_no hx] at h1; cases h1
      | true =>
        rw [thenV_yes hx] at h1 ⊢
        exact ih (fun y hy => hl y (by simp [hy])) d _ (hl x (by simp) d s h hx) h1
  have hD : ∀ l : List (ByteArray × V), (∀ p ∈ l, ∀ d s, s.why = 0 → (partV p.2 d s).1 = true → (partV p.2 d s).2.why = 0) → ∀ d s, s.why = 0 → (partD l d s).1 = true → (partD l d s).2.why = 0 := by
    intro l hl d s
    rw [partD_eq]
    exact hL _ (fun x hx => by obtain ⟨p, hp, rfl⟩ := List.mem_map.1 hx; exact hl p hp) d s
  have st : ∀ (x : V) (K : Cnt → Bool × Cnt) d s, (∀ s, s.why = 0 → (K s).1 = true → (K s).2.why = 0) → (stepV x d s K).1 = true → (stepV x d s K).2.why = 0 := by
    intro x K d s hK h
    by_cases ho : ownV x s.n d = 0
    · rw [stepV_yes ho] at h ⊢; exact hK _ rfl h
    · rw [stepV_no ho] at h; cases h
  induction x using V.ind with
  | h7 l ih => intro d s hs h; rw [partV] at h ⊢; exact st _ _ d s (fun s hs h => hL l ih _ s hs h) h
  | h8 l ih => intro d s hs h; rw [partV] at h ⊢; exact st _ _ d s (fun s hs h => hD l ih _ s hs h) h
  | h9 c v l ih => intro d s hs h; rw [partV] at h ⊢; exact st _ _ d s (fun s hs h => hD l ih _ s hs h) h
  | h0 => intro d s hs h; rw [partV] at h ⊢; exact st _ _ d s (fun s hs _ => hs) h
  | h1 => intro d s hs h; rw [partV] at h ⊢; exact st _ _ d s (fun s hs _ => hs) h
  | h2 => intro d s hs h; rw [partV] at h ⊢; exact st _ _ d s (fun s hs _ => hs) h
  | h3 => intro d s hs h; rw [partV] at h ⊢; exact st _ _ d s (fun s hs _ => hs) h
  | h4 => intro d s hs h; rw [partV] at h ⊢; exact st _ _ d s (fun s hs _ => hs) h
  | h5 => intro d s hs h; rw [partV] at h ⊢; exact st _ _ d s (fun s hs _ => hs) h
  | h6 => intro d s hs h; rw [partV] at h ⊢; exact st _ _ d s (fun s hs _ => hs) h
  | h10 => intro d s hs h; rw [partV] at h ⊢; exact st _ _ d s (fun s hs _ => hs) h
  | h11 => intro d s hs h; rw [partV] at h ⊢; exact st _ _ d s (fun s hs _ => hs) h
theorem bad_why {x : V} : ∀ {d : Nat} {s : Cnt}, (partV x d s).1 = false → (partV x d s).2.why ≠ 0 := by
  have hL : ∀ l : List V, (∀ x ∈ l, ∀ {d s}, (partV x d s).1 = false → (partV x d s).2.why ≠ 0) → ∀ {d s}, (partL l d s).1 = false → (partL l d s).2.why ≠ 0 := by
    intro l
    induction l with
    | nil => intro _ d s h; rw [partL] at h; cases h
    | cons x r ih =>
      intro hl d s h1
      rw [partL_cons] at h1 ⊢
      cases hx : (partV x d s).1 with
      | false => rw [thenV_no hx]; exact hl x (by simp) hx
      | true =>
        rw [thenV_yes hx] at h1 ⊢
        exact ih (fun y hy => hl y (by simp [hy])) h1
  have hD : ∀ l : List (ByteArray × V), (∀ p ∈ l, ∀ {d s}, (partV p.2 d s).1 = false → (partV p.2 d s).2.why ≠ 0) → ∀ {d s}, (partD l d s).1 = false → (partD l d s).2.why ≠ 0 := by
    intro l hl d s
    rw [partD_eq]
    exact hL _ (fun x hx => by obtain ⟨p, hp, rfl⟩ := List.mem_map.1 hx; exact hl p hp)
  have st : ∀ (x : V) (K : Cnt → Bool × Cnt) d s, (∀ s, (K s).1 = false → (K s).2.why ≠ 0) → (stepV x d s K).1 = false → (stepV x d s K).2.why ≠ 0 := by
    intro x K d s hK h
    by_cases ho : ownV x s.n d = 0
    · rw [stepV_yes ho] at h ⊢; exact hK _ h
    · rw [stepV_no ho]; exact ho
  have lf : ∀ (x : V) d s, (stepV x d s fun t => (true, t)).1 = false → (stepV x d s fun t => (true, t)).2.why ≠ 0 := fun x d s => st x _ d s (fun s h => by cases h)
  induction x using V.ind with
  | h7 l ih => intro d s h; rw [partV] at h ⊢; exact st _ _ d s (fun s h => hL l ih h) h
  | h8 l ih => intro d s h; rw [partV] at h ⊢; exact st _ _ d s (fun s h => hD l ih h) h
  | h9 c v l ih => intro d s h; rw [partV] at h ⊢; exact st _ _ d s (fun s h => hD l ih h) h
  | h0 => intro d s h; rw [partV] at h ⊢; exact lf _ d s h
  | h1 => intro d s h; rw [partV] at h ⊢; exact lf _ d s h
  | h2 => intro d s h; rw [partV] at h ⊢; exact lf _ d s h
  | h3 => intro d s h; rw [partV] at h ⊢; exact lf _ d s h
  | h4 => intro d s h; rw [partV] at h ⊢; exact lf _ d s h
  | h5 => intro d s h; rw [partV] at h ⊢; exact lf _ d s h
  | h6 => intro d s h; rw [partV] at h ⊢; exact lf _ d s h
  | h10 => intro d s h; rw [partV] at h ⊢; exact lf _ d s h
  | h11 => intro d s h; rw [partV] at h ⊢; exact lf _ d s h
set_option maxRecDepth 100000 in
set_option maxHeartbeats 4000000 in
theorem rpart_own (T : Tm) (x : List Value) (n dp d : Nat) (w : World) (hx : RdT w w.heap.size T x) (ho : ¬ ownV (builtV T) n d = 0) : Calls Tryz.prog 46 #[.agg #[.int .i64 n, .int .i64 dp, .int .i64 0, .int .i64 0], termOf x, .int .i64 d] w (SeenPost (partV (builtV T) d ⟨n, dp, 0⟩) w) := by
  have HR : Hid (seenV (partV (builtV T) d ⟨n, dp, 0⟩) = .agg #[.int .i64 n, .int .i64 dp, .int .i64 n, .int .i64 (ownV (builtV T) n d)]) := Lib.hid (by rw [part_step, stepV_no ho]; rfl)
  obtain ⟨x0, x1, x2, x3, x4, x5, x6, x7, x8, x9, x10, rfl, -⟩ := hx.eleven
  have HB : Hid (Below w.heap.size w (((w.alloc (.cells #[.int .i64 n, .int .i64 dp, .int .i64 0, .int .i64 0] 121)).alloc (.cells #[x0, x1, x2, x3, x4, x5, x6, x7, x8, x9, x10] 29)).alloc (.cells #[.int .i64 0, .int .i64 0, .int .i64 0, .int .i64 0] 121))) := Lib.hid ((((Below.refl _ _).alloc (Nat.le_refl _) _).alloc (by simp) _).alloc (by simp; omega) _)
  have HO := Lib.hid (rown_any T [x0, x1, x2, x3, x4, x5, x6, x7, x8, x9, x10] n d (((w.alloc (.cells #[.int .i64 n, .int .i64 dp, .int .i64 0, .int .i64 0] 121)).alloc (.cells #[x0, x1, x2, x3, x4, x5, x6, x7, x8, x9, x10] 29)).alloc (.cells #[.int .i64 0, .int .i64 0, .int .i64 0, .int .i64 0] 121)) (RdT.more HB.out.size _ _ (RdT.below hx HB.out)))
  have hq : ((ownV (builtV T) n d : Int) != 0) = true := by rw [bne_iff_ne]; omega
  have hsz : (((w.alloc (.cells #[.int .i64 n, .int .i64 dp, .int .i64 0, .int .i64 0] 121)).alloc (.cells #[x0, x1, x2, x3, x4, x5, x6, x7, x8, x9, x10] 29)).alloc (.cells #[.int .i64 0, .int .i64 0, .int .i64 0, .int .i64 0] 121)).heap.size = w.heap.size + 3 := by simp
  generalize ownV (builtV T) n d = ow at *
  unfold SeenPost
  rw [HR.out]
  clear hx HR ho
  unfold termOf at HO ⊢
  go_enter Tryz.func46, Tryz.ntmps46
  go_wp2_with fail
  refine HO.out.mono ?_
  rintro e w1 ⟨rfl, hb1⟩
  have c0 : w1.cell? ⟨w.heap.size, 0, none⟩ = some (.int .i64 n) := (hb1.cell (p := ⟨w.heap.size, 0, none⟩) (show w.heap.size < _ by rw [hsz]; omega)).trans (by simp [go_sem])
  have f0 : w1.frozen? ⟨w.heap.size, 0, none⟩ = false := (hb1.frozen (p := ⟨w.heap.size, 0, none⟩) (show w.heap.size < _ by rw [hsz]; omega)).trans (by simp [go_sem])
  have c1 : w1.cell? ⟨w.heap.size, 1, none⟩ = some (.int .i64 dp) := (hb1.cell (p := ⟨w.heap.size, 1, none⟩) (show w.heap.size < _ by rw [hsz]; omega)).trans (by simp [go_sem])
  have f1 : w1.frozen? ⟨w.heap.size, 1, none⟩ = false := (hb1.frozen (p := ⟨w.heap.size, 1, none⟩) (show w.heap.size < _ by rw [hsz]; omega)).trans (by simp [go_sem])
  have c2 : w1.cell? ⟨w.heap.size, 2, none⟩ = some (.int .i64 0) := (hb1.cell (p := ⟨w.heap.size, 2, none⟩) (show w.heap.size < _ by rw [hsz]; omega)).trans (by simp [go_sem])
  have f2 : w1.frozen? ⟨w.heap.size, 2, none⟩ = false := (hb1.frozen (p := ⟨w.heap.size, 2, none⟩) (show w.heap.size < _ by rw [hsz]; omega)).trans (by simp [go_sem])
  have c3 : w1.cell? ⟨w.heap.size, 3, none⟩ = some (.int .i64 0) := (hb1.cell (p := ⟨w.heap.size, 3, none⟩) (show w.heap.size < _ by rw [hsz]; omega)).trans (by simp [go_sem])
  have f3 : w1.frozen? ⟨w.heap.size, 3, none⟩ = false := (hb1.frozen (p := ⟨w.heap.size, 3, none⟩) (show w.heap.size < _ by rw [hsz]; omega)).trans (by simp [go_sem])
  have d0 : w1.cell? ⟨w.heap.size + 1 + 1, 0, none⟩ = some (.int .i64 0) := (hb1.cell (p := ⟨w.heap.size + 1 + 1, 0, none⟩) (show w.heap.size + 1 + 1 < _ by rw [hsz]; omega)).trans (by simp [go_sem])
  have g0 : w1.frozen? ⟨w.heap.size + 1 + 1, 0, none⟩ = false := (hb1.frozen (p := ⟨w.heap.size + 1 + 1, 0, none⟩) (show w.heap.size + 1 + 1 < _ by rw [hsz]; omega)).trans (by simp [go_sem])
  have d1 : w1.cell? ⟨w.heap.size + 1 + 1, 1, none⟩ = some (.int .i64 0) := (hb1.cell (p := ⟨w.heap.size + 1 + 1, 1, none⟩) (show w.heap.size + 1 + 1 < _ by rw [hsz]; omega)).trans (by simp [go_sem])
  have g1 : w1.frozen? ⟨w.heap.size + 1 + 1, 1, none⟩ = false := (hb1.frozen (p := ⟨w.heap.size + 1 + 1, 1, none⟩) (show w.heap.size + 1 + 1 < _ by rw [hsz]; omega)).trans (by simp [go_sem])
  have d2 : w1.cell? ⟨w.heap.size + 1 + 1, 2, none⟩ = some (.int .i64 0) := (hb1.cell (p := ⟨w.heap.size + 1 + 1, 2, none⟩) (show w.heap.size + 1 + 1 < _ by rw [hsz]; omega)).trans (by simp [go_sem])
  have g2 : w1.frozen? ⟨w.heap.size + 1 + 1, 2, none⟩ = false := (hb1.frozen (p := ⟨w.heap.size + 1 + 1, 2, none⟩) (show w.heap.size + 1 + 1 < _ by rw [hsz]; omega)).trans (by simp [go_sem])
  have d3 : w1.cell? ⟨w.heap.size + 1 + 1, 3, none⟩ = some (.int .i64 0) := (hb1.cell (p := ⟨w.heap.size + 1 + 1, 3, none⟩) (show w.heap.size + 1 + 1 < _ by rw [hsz]; omega)).trans (by simp [go_sem])
  have g3 : w1.frozen? ⟨w.heap.size + 1 + 1, 3, none⟩ = false := (hb1.frozen (p := ⟨w.heap.size + 1 + 1, 3, none⟩) (show w.heap.size + 1 + 1 < _ by rw [hsz]; omega)).trans (by simp [go_sem])
  go_wp2
  (try simp only [Exit.inBlock, Exit.then]); refine bodyPost_ret (v := .agg #[.int .i64 n, .int .i64 dp, .int .i64 n, .int .i64 ow]) (by simp [results, Tryz.results46, go_sem, d0, d1, d2, d3]) rfl ?_
  refine ⟨rfl, HB.out.trans ?_⟩
  have hbm : Below w.heap.size (((w.alloc (.cells #[.int .i64 n, .int .i64 dp, .int .i64 0, .int .i64 0] 121)).alloc (.cells #[x0, x1, x2, x3, x4, x5, x6, x7, x8, x9, x10] 29)).alloc (.cells #[.int .i64 0, .int .i64 0, .int .i64 0, .int .i64 0] 121)) w1 := hb1.mono (by rw [hsz]; omega)
  exact ((((((hbm).setCell (p := ⟨w.heap.size, 2, none⟩) (Nat.le_refl _) _).setCell (p := ⟨w.heap.size, 3, none⟩) (Nat.le_refl _) _).setCell (p := ⟨w.heap.size + 1 + 1, 0, none⟩) (by show w.heap.size ≤ w.heap.size + 1 + 1; omega) _).setCell (p := ⟨w.heap.size + 1 + 1, 1, none⟩) (by show w.heap.size ≤ w.heap.size + 1 + 1; omega) _).setCell (p := ⟨w.heap.size + 1 + 1, 2, none⟩) (by show w.heap.size ≤ w.heap.size + 1 + 1; omega) _).setCell (p := ⟨w.heap.size + 1 + 1, 3, none⟩) (by show w.heap.size ≤ w.heap.size + 1 + 1; omega) _
theorem partL_take {l : List V} {d : Nat} {s t : Cnt} {k : Nat} {x : V} (h : partL (l.take k) d s = (true, t)) (hx : l[k]? = some x) : partL (l.take (k + 1)) d s = partV x d t := by
  induction l generalizing s k with
  | nil => simp at hx
  | cons y r ih =>
    cases k with
    | zero =>
      simp at hx; subst hx
      simp only [List.take_zero, partL] at h
      injection h with _ h; subst h
      rw [List.take_succ_cons, List.take_zero, partL_cons]
      unfold thenV
      split
      · rename_i hc; rw [partL]; exact Prod.ext hc.symm rfl
      · rename_i hc; exact Prod.ext (by simpa using hc) rfl
    | succ k =>
      rw [List.take_succ_cons, partL_cons] at h ⊢
      cases hy : (partV y d s).1 with
      | false => rw [thenV_no hy] at h; cases h
      | true =>
        rw [thenV_yes hy] at h ⊢
        exact ih h (by simpa using hx)
theorem partL_bad {l : List V} {d : Nat} {s : Cnt} {k : Nat} (h : (partL (l.take k) d s).1 = false) : partL l d s = partL (l.take k) d s := by
  induction l generalizing s k with
  | nil => simp
  | cons y r ih =>
    cases k with
    | zero => simp only [List.take_zero, partL] at h; cases h
    | succ k =>
      rw [List.take_succ_cons, partL_cons] at h ⊢
      rw [partL_cons]
      cases hy : (partV y d s).1 with
      | false => rw [thenV_no hy, thenV_no hy]
      | true =>
        rw [thenV_yes hy] at h
        rw [thenV_yes hy, thenV_yes hy]
        exact ih h
theorem partsT_len {T : Tm} {w : World} {x : List Value} (h : RdT w w.heap.size T x) : (partsT T).length ≤ 1099511627776 := by
  obtain ⟨k, b, i, f, t, bs, r, l, d, c, v⟩ := T
  obtain ⟨Ab, cb, Al, cl, Ad, cd, rfl, hk, hi, ht, hbl, ⟨hbn, hbs⟩, hr0, hr1, hc, hv, ⟨hll, hl⟩, ⟨hdl, hd⟩⟩ := h
  show (if k = 8 then l else if k = 9 ∨ k = 10 then d.map (·.2) else []).length ≤ _
  split
  · omega
  · split
    · rw [List.length_map]; omega
    · simp
set_option maxRecDepth 100000 in
set_option maxHeartbeats 4000000 in
theorem rpart_okA (T : Tm) (ih : ∀ p ∈ partsT T, RPartC p) (x : List Value) (n dp d : Nat) (w : World) (hx : RdT w w.heap.size T x) (ho : ownV (builtV T) n d = 0) (hdp : dp < d) : Calls Tryz.prog 46 #[.agg #[.int .i64 n, .int .i64 dp, .int .i64 0, .int .i64 0], termOf x, .int .i64 d] w (SeenPost (partV (builtV T) d ⟨n, dp, 0⟩) w) := by
  have hmax : max dp d = d := by omega
  have HR : Hid (partV (builtV T) d ⟨n, dp, 0⟩ = partL ((partsT T).map builtV) (d + 1) ⟨n + 1, d, 0⟩) := Lib.hid (by rw [part_step, stepV_yes ho, hmax])
  obtain ⟨hn, hd⟩ := ownV_zero ho
  have hlen : (partsT T).length ≤ 1099511627776 := partsT_len hx
  have hx0 := Lib.hid hx
  obtain ⟨x0, x1, x2, x3, x4, x5, x6, x7, x8, x9, x10, rfl, -⟩ := hx.eleven
  have HB : Hid (Below w.heap.size w (((w.alloc (.cells #[.int .i64 n, .int .i64 dp, .int .i64 0, .int .i64 0] 121)).alloc (.cells #[x0, x1, x2, x3, x4, x5, x6, x7, x8, x9, x10] 29)).alloc (.cells #[.int .i64 0, .int .i64 0, .int .i64 0, .int .i64 0] 121))) := Lib.hid ((((Below.refl _ _).alloc (Nat.le_refl _) _).alloc (by simp) _).alloc (by simp; omega) _)
  have HO := Lib.hid (rown_any T [x0, x1, x2, x3, x4, x5, x6, x7, x8, x9, x10] n d (((w.alloc (.cells #[.int .i64 n, .int .i64 dp, .int .i64 0, .int .i64 0] 121)).alloc (.cells #[x0, x1, x2, x3, x4, x5, x6, x7, x8, x9, x10] 29)).alloc (.cells #[.int .i64 0, .int .i64 0, .int .i64 0, .int .i64 0] 121)) (RdT.more HB.out.size _ _ (RdT.below hx HB.out)))
  rw [ho] at HO
  have hsz : (((w.alloc (.cells #[.int .i64 n, .int .i64 dp, .int .i64 0, .int .i64 0] 121)).alloc (.cells #[x0, x1, x2, x3, x4, x5, x6, x7, x8, x9, x10] 29)).alloc (.cells #[.int .i64 0, .int .i64 0, .int .i64 0, .int .i64 0] 121)).heap.size = w.heap.size + 3 := by simp
  clear hx ho
  unfold SeenPost
  rw [HR.out]
  generalize hpl : (partsT T) = pl at *
  clear HR
  unfold termOf at HO ⊢
  go_enter Tryz.func46, Tryz.ntmps46
  go_wp2_with fail
  refine HO.out.mono ?_
  rintro e w1 ⟨rfl, hb1⟩
  have hz1 : w.heap.size + 3 ≤ w1.heap.size := by have := hb1.size; rw [hsz] at this; exact this
  have hb01 : Below w.heap.size w w1 := HB.out.trans (hb1.mono (by rw [hsz]; omega))
  have c0 : w1.cell? ⟨w.heap.size, 0, none⟩ = some (.int .i64 n) := (hb1.cell (p := ⟨w.heap.size, 0, none⟩) (show w.heap.size < _ by rw [hsz]; omega)).trans (by simp [go_sem])
  have f0 : w1.frozen? ⟨w.heap.size, 0, none⟩ = false := (hb1.frozen (p := ⟨w.heap.size, 0, none⟩) (show w.heap.size < _ by rw [hsz]; omega)).trans (by simp [go_sem])
  have c1 : w1.cell? ⟨w.heap.size, 1, none⟩ = some (.int .i64 dp) := (hb1.cell (p := ⟨w.heap.size, 1, none⟩) (show w.heap.size < _ by rw [hsz]; omega)).trans (by simp [go_sem])
  have f1 : w1.frozen? ⟨w.heap.size, 1, none⟩ = false := (hb1.frozen (p := ⟨w.heap.size, 1, none⟩) (show w.heap.size < _ by rw [hsz]; omega)).trans (by simp [go_sem])
  have c2 : w1.cell? ⟨w.heap.size, 2, none⟩ = some (.int .i64 0) := (hb1.cell (p := ⟨w.heap.size, 2, none⟩) (show w.heap.size < _ by rw [hsz]; omega)).trans (by simp [go_sem])
  have f2 : w1.frozen? ⟨w.heap.size, 2, none⟩ = false := (hb1.frozen (p := ⟨w.heap.size, 2, none⟩) (show w.heap.size < _ by rw [hsz]; omega)).trans (by simp [go_sem])
  have c3 : w1.cell? ⟨w.heap.size, 3, none⟩ = some (.int .i64 0) := (hb1.cell (p := ⟨w.heap.size, 3, none⟩) (show w.heap.size < _ by rw [hsz]; omega)).trans (by simp [go_sem])
  have f3 : w1.frozen? ⟨w.heap.size, 3, none⟩ = false := (hb1.frozen (p := ⟨w.heap.size, 3, none⟩) (show w.heap.size < _ by rw [hsz]; omega)).trans (by simp [go_sem])
  have d0 : w1.cell? ⟨w.heap.size + 1 + 1, 0, none⟩ = some (.int .i64 0) := (hb1.cell (p := ⟨w.heap.size + 1 + 1, 0, none⟩) (show w.heap.size + 1 + 1 < _ by rw [hsz]; omega)).trans (by simp [go_sem])
  have g0 : w1.frozen? ⟨w.heap.size + 1 + 1, 0, none⟩ = false := (hb1.frozen (p := ⟨w.heap.size + 1 + 1, 0, none⟩) (show w.heap.size + 1 + 1 < _ by rw [hsz]; omega)).trans (by simp [go_sem])
  have d1 : w1.cell? ⟨w.heap.size + 1 + 1, 1, none⟩ = some (.int .i64 0) := (hb1.cell (p := ⟨w.heap.size + 1 + 1, 1, none⟩) (show w.heap.size + 1 + 1 < _ by rw [hsz]; omega)).trans (by simp [go_sem])
  have g1 : w1.frozen? ⟨w.heap.size + 1 + 1, 1, none⟩ = false := (hb1.frozen (p := ⟨w.heap.size + 1 + 1, 1, none⟩) (show w.heap.size + 1 + 1 < _ by rw [hsz]; omega)).trans (by simp [go_sem])
  have d2 : w1.cell? ⟨w.heap.size + 1 + 1, 2, none⟩ = some (.int .i64 0) := (hb1.cell (p := ⟨w.heap.size + 1 + 1, 2, none⟩) (show w.heap.size + 1 + 1 < _ by rw [hsz]; omega)).trans (by simp [go_sem])
  have g2 : w1.frozen? ⟨w.heap.size + 1 + 1, 2, none⟩ = false := (hb1.frozen (p := ⟨w.heap.size + 1 + 1, 2, none⟩) (show w.heap.size + 1 + 1 < _ by rw [hsz]; omega)).trans (by simp [go_sem])
  have d3 : w1.cell? ⟨w.heap.size + 1 + 1, 3, none⟩ = some (.int .i64 0) := (hb1.cell (p := ⟨w.heap.size + 1 + 1, 3, none⟩) (show w.heap.size + 1 + 1 < _ by rw [hsz]; omega)).trans (by simp [go_sem])
  have g3 : w1.frozen? ⟨w.heap.size + 1 + 1, 3, none⟩ = false := (hb1.frozen (p := ⟨w.heap.size + 1 + 1, 3, none⟩) (show w.heap.size + 1 + 1 < _ by rw [hsz]; omega)).trans (by simp [go_sem])
  have c4 : ∀ k u, [x0, x1, x2, x3, x4, x5, x6, x7, x8, x9, x10][k]? = some u → w1.cell? ⟨w.heap.size + 1, k, none⟩ = some u := fun k u h => (hb1.cell (p := ⟨w.heap.size + 1, k, none⟩) (show w.heap.size + 1 < _ by rw [hsz]; omega)).trans (by rw [← h]; simp [go_sem])
  have e0 := c4 0 _ rfl
  have e1 := c4 1 _ rfl
  have e2 := c4 2 _ rfl
  have e3 := c4 3 _ rfl
  have e4 := c4 4 _ rfl
  have e5 := c4 5 _ rfl
  have e6 := c4 6 _ rfl
  have e7 := c4 7 _ rfl
  have e8 := c4 8 _ rfl
  have e9 := c4 9 _ rfl
  have e10 := c4 10 _ rfl
  clear c4
  have hW2 : ((w1.setCell ⟨w.heap.size, 0, none⟩ (.int .i64 ((n : Int) + 1))).setCell ⟨w.heap.size, 1, none⟩ (.int .i64 d)).heap.size = w1.heap.size := by simp
  have hBW2 : Below w.heap.size w ((w1.setCell ⟨w.heap.size, 0, none⟩ (.int .i64 ((n : Int) + 1))).setCell ⟨w.heap.size, 1, none⟩ (.int .i64 d)) := (hb01.setCell (p := ⟨w.heap.size, 0, none⟩) (Nat.le_refl _) _).setCell (p := ⟨w.heap.size, 1, none⟩) (Nat.le_refl _) _
  have hx2 : RdTS ((w1.setCell ⟨w.heap.size, 0, none⟩ (.int .i64 ((n : Int) + 1))).setCell ⟨w.heap.size, 1, none⟩ (.int .i64 d)) (fun b => b < w.heap.size) T [x0, x1, x2, x3, x4, x5, x6, x7, x8, x9, x10] := RdTS.keep (fun p hp => hBW2.cell hp) _ _ hx0.out
  have HP := Lib.hid (rparts_any T [x0, x1, x2, x3, x4, x5, x6, x7, x8, x9, x10] ((w1.setCell ⟨w.heap.size, 0, none⟩ (.int .i64 ((n : Int) + 1))).setCell ⟨w.heap.size, 1, none⟩ (.int .i64 d)) (fun b => b < w.heap.size) (fun b h => by rw [hW2]; omega) hx2)
  unfold termOf at HP
  rw [hpl] at HP
  have s0 : ((w1.setCell ⟨w.heap.size, 0, none⟩ (.int .i64 ((n : Int) + 1))).setCell ⟨w.heap.size, 1, none⟩ (.int .i64 d)).cell? ⟨w.heap.size, 0, none⟩ = some (.int .i64 ((n : Int) + 1)) := by simp [go_sem, c0, c1, c2, c3]
  have s1 : ((w1.setCell ⟨w.heap.size, 0, none⟩ (.int .i64 ((n : Int) + 1))).setCell ⟨w.heap.size, 1, none⟩ (.int .i64 d)).cell? ⟨w.heap.size, 1, none⟩ = some (.int .i64 d) := by simp [go_sem, c0, c1, c2, c3]
  have s2 : ((w1.setCell ⟨w.heap.size, 0, none⟩ (.int .i64 ((n : Int) + 1))).setCell ⟨w.heap.size, 1, none⟩ (.int .i64 d)).cell? ⟨w.heap.size, 2, none⟩ = some (.int .i64 0) := by simp [go_sem, c0, c1, c2, c3]
  have s3 : ((w1.setCell ⟨w.heap.size, 0, none⟩ (.int .i64 ((n : Int) + 1))).setCell ⟨w.heap.size, 1, none⟩ (.int .i64 d)).cell? ⟨w.heap.size, 3, none⟩ = some (.int .i64 0) := by simp [go_sem, c0, c1, c2, c3]
  have t0 : ((w1.setCell ⟨w.heap.size, 0, none⟩ (.int .i64 ((n : Int) + 1))).setCell ⟨w.heap.size, 1, none⟩ (.int .i64 d)).frozen? ⟨w.heap.size, 0, none⟩ = false := by simp [go_sem, f0, f1, f2, f3]
  have t1 : ((w1.setCell ⟨w.heap.size, 0, none⟩ (.int .i64 ((n : Int) + 1))).setCell ⟨w.heap.size, 1, none⟩ (.int .i64 d)).frozen? ⟨w.heap.size, 1, none⟩ = false := by simp [go_sem, f0, f1, f2, f3]
  have t2 : ((w1.setCell ⟨w.heap.size, 0, none⟩ (.int .i64 ((n : Int) + 1))).setCell ⟨w.heap.size, 1, none⟩ (.int .i64 d)).frozen? ⟨w.heap.size, 2, none⟩ = false := by simp [go_sem, f0, f1, f2, f3]
  have t3 : ((w1.setCell ⟨w.heap.size, 0, none⟩ (.int .i64 ((n : Int) + 1))).setCell ⟨w.heap.size, 1, none⟩ (.int .i64 d)).frozen? ⟨w.heap.size, 3, none⟩ = false := by simp [go_sem, f0, f1, f2, f3]
  have u0 : ((w1.setCell ⟨w.heap.size, 0, none⟩ (.int .i64 ((n : Int) + 1))).setCell ⟨w.heap.size, 1, none⟩ (.int .i64 d)).cell? ⟨w.heap.size + 1 + 1, 0, none⟩ = some (.int .i64 0) := by simp [go_sem, d0, d1, d2, d3]
  have z0 : ((w1.setCell ⟨w.heap.size, 0, none⟩ (.int .i64 ((n : Int) + 1))).setCell ⟨w.heap.size, 1, none⟩ (.int .i64 d)).frozen? ⟨w.heap.size + 1 + 1, 0, none⟩ = false := by simp [go_sem, g0, g1, g2, g3]
  have u1 : ((w1.setCell ⟨w.heap.size, 0, none⟩ (.int .i64 ((n : Int) + 1))).setCell ⟨w.heap.size, 1, none⟩ (.int .i64 d)).cell? ⟨w.heap.size + 1 + 1, 1, none⟩ = some (.int .i64 0) := by simp [go_sem, d0, d1, d2, d3]
  have z1 : ((w1.setCell ⟨w.heap.size, 0, none⟩ (.int .i64 ((n : Int) + 1))).setCell ⟨w.heap.size, 1, none⟩ (.int .i64 d)).frozen? ⟨w.heap.size + 1 + 1, 1, none⟩ = false := by simp [go_sem, g0, g1, g2, g3]
  have u2 : ((w1.setCell ⟨w.heap.size, 0, none⟩ (.int .i64 ((n : Int) + 1))).setCell ⟨w.heap.size, 1, none⟩ (.int .i64 d)).cell? ⟨w.heap.size + 1 + 1, 2, none⟩ = some (.int .i64 0) := by simp [go_sem, d0, d1, d2, d3]
  have z2 : ((w1.setCell ⟨w.heap.size, 0, none⟩ (.int .i64 ((n : Int) + 1))).setCell ⟨w.heap.size, 1, none⟩ (.int .i64 d)).frozen? ⟨w.heap.size + 1 + 1, 2, none⟩ = false := by simp [go_sem, g0, g1, g2, g3]
  have u3 : ((w1.setCell ⟨w.heap.size, 0, none⟩ (.int .i64 ((n : Int) + 1))).setCell ⟨w.heap.size, 1, none⟩ (.int .i64 d)).cell? ⟨w.heap.size + 1 + 1, 3, none⟩ = some (.int .i64 0) := by simp [go_sem, d0, d1, d2, d3]
  have z3 : ((w1.setCell ⟨w.heap.size, 0, none⟩ (.int .i64 ((n : Int) + 1))).setCell ⟨w.heap.size, 1, none⟩ (.int .i64 d)).frozen? ⟨w.heap.size + 1 + 1, 3, none⟩ = false := by simp [go_sem, g0, g1, g2, g3]
  clear hx2
  go_wp2_with fail
  refine HP.out.mono ?_
  rintro e w3 ⟨A, c, rfl, hR, hb3⟩
  have hz3 : w1.heap.size ≤ w3.heap.size := by have := hb3.size; rw [hW2] at this; exact this
  have hb03 : Below w.heap.size w w3 := hBW2.trans (hb3.mono (by rw [hW2]; omega))
  have k0 := (hb3.cell (p := ⟨w.heap.size, 0, none⟩) (show w.heap.size < _ by rw [hW2]; omega)).trans s0
  have l0 := (hb3.frozen (p := ⟨w.heap.size, 0, none⟩) (show w.heap.size < _ by rw [hW2]; omega)).trans t0
  have i0 := (hb3.cell (p := ⟨w.heap.size + 1 + 1, 0, none⟩) (show w.heap.size + 1 + 1 < _ by rw [hW2]; omega)).trans u0
  have j0 := (hb3.frozen (p := ⟨w.heap.size + 1 + 1, 0, none⟩) (show w.heap.size + 1 + 1 < _ by rw [hW2]; omega)).trans z0
  have k1 := (hb3.cell (p := ⟨w.heap.size, 1, none⟩) (show w.heap.size < _ by rw [hW2]; omega)).trans s1
  have l1 := (hb3.frozen (p := ⟨w.heap.size, 1, none⟩) (show w.heap.size < _ by rw [hW2]; omega)).trans t1
  have i1 := (hb3.cell (p := ⟨w.heap.size + 1 + 1, 1, none⟩) (show w.heap.size + 1 + 1 < _ by rw [hW2]; omega)).trans u1
  have j1 := (hb3.frozen (p := ⟨w.heap.size + 1 + 1, 1, none⟩) (show w.heap.size + 1 + 1 < _ by rw [hW2]; omega)).trans z1
  have k2 := (hb3.cell (p := ⟨w.heap.size, 2, none⟩) (show w.heap.size < _ by rw [hW2]; omega)).trans s2
  have l2 := (hb3.frozen (p := ⟨w.heap.size, 2, none⟩) (show w.heap.size < _ by rw [hW2]; omega)).trans t2
  have i2 := (hb3.cell (p := ⟨w.heap.size + 1 + 1, 2, none⟩) (show w.heap.size + 1 + 1 < _ by rw [hW2]; omega)).trans u2
  have j2 := (hb3.frozen (p := ⟨w.heap.size + 1 + 1, 2, none⟩) (show w.heap.size + 1 + 1 < _ by rw [hW2]; omega)).trans z2
  have k3 := (hb3.cell (p := ⟨w.heap.size, 3, none⟩) (show w.heap.size < _ by rw [hW2]; omega)).trans s3
  have l3 := (hb3.frozen (p := ⟨w.heap.size, 3, none⟩) (show w.heap.size < _ by rw [hW2]; omega)).trans t3
  have i3 := (hb3.cell (p := ⟨w.heap.size + 1 + 1, 3, none⟩) (show w.heap.size + 1 + 1 < _ by rw [hW2]; omega)).trans u3
  have j3 := (hb3.frozen (p := ⟨w.heap.size + 1 + 1, 3, none⟩) (show w.heap.size + 1 + 1 < _ by rw [hW2]; omega)).trans z3
  have hSeen : ∀ b, (b < w.heap.size ∨ New ((w1.setCell ⟨w.heap.size, 0, none⟩ (.int .i64 ((n : Int) + 1))).setCell ⟨w.heap.size, 1, none⟩ (.int .i64 d)) w3 b) → b < w3.heap.size ∧ b ≠ w.heap.size := fun b hb9 => hb9.elim (fun h => ⟨by omega, by omega⟩) (fun h => ⟨h.2, by have := h.1; rw [hW2] at this; omega⟩)
  clear c0 c1 c2 c3 f0 f1 f2 f3 d0 d1 d2 d3 g0 g1 g2 g3 s0 s1 s2 s3 t0 t1 t2 t3 HP HO hb3 e0 e1 e2 e3 e4 e5 e6 e7 e8 e9 e10
  go_wp2_with fail
  go_loopw [9] (fun jx wr => ∃ k n2 m2 : Nat, jx = .int .i64 k ∧ k ≤ pl.length ∧ Hid (partL ((pl.map builtV).take k) (d + 1) ⟨n + 1, d, 0⟩ = (true, ⟨n2, m2, 0⟩)) ∧ Bes w.heap.size w3 wr ∧
      (wr.cell? ⟨w.heap.size, 0, none⟩ = some (.int .i64 n2) ∧ wr.cell? ⟨w.heap.size, 1, none⟩ = some (.int .i64 m2) ∧ wr.cell? ⟨w.heap.size, 2, none⟩ = some (.int .i64 0) ∧ wr.cell? ⟨w.heap.size, 3, none⟩ = some (.int .i64 0)) ∧
      (wr.frozen? ⟨w.heap.size, 0, none⟩ = false ∧ wr.frozen? ⟨w.heap.size, 1, none⟩ = false ∧ wr.frozen? ⟨w.heap.size, 2, none⟩ = false ∧ wr.frozen? ⟨w.heap.size, 3, none⟩ = false)) (fun jx _ => pl.length - (intOf jx).toNat)
  case atStart => exact ⟨0, n + 1, d, rfl, by omega, Lib.hid (by simp [partL]), Bes.refl _ _, ⟨by rw [k0]; rfl, k1, k2, k3⟩, l0, l1, l2, l3⟩
  case round =>
    obtain ⟨k, n2, m2, rfl, hk, HT, hbr, ⟨a0, a1, a2, a3⟩, b0, b1, b2, b3⟩ := hrel
    have hzr : w3.heap.size ≤ wr.heap.size := hbr.size
    have hwl : w.heap.size < wr.heap.size := by omega
    have hb0r : Below w.heap.size w wr := hb03.trans (hbr.below (by omega))
    have o0 := (hbr.cell (p := ⟨w.heap.size + 1 + 1, 0, none⟩) (show w.heap.size + 1 + 1 < _ by omega) (show w.heap.size + 1 + 1 ≠ _ by omega)).trans i0
    have p0 := (hbr.frozen (p := ⟨w.heap.size + 1 + 1, 0, none⟩) (show w.heap.size + 1 + 1 < _ by omega) (show w.heap.size + 1 + 1 ≠ _ by omega)).trans j0
    have o1 := (hbr.cell (p := ⟨w.heap.size + 1 + 1, 1, none⟩) (show w.heap.size + 1 + 1 < _ by omega) (show w.heap.size + 1 + 1 ≠ _ by omega)).trans i1
    have p1 := (hbr.frozen (p := ⟨w.heap.size + 1 + 1, 1, none⟩) (show w.heap.size + 1 + 1 < _ by omega) (show w.heap.size + 1 + 1 ≠ _ by omega)).trans j1
    have o2 := (hbr.cell (p := ⟨w.heap.size + 1 + 1, 2, none⟩) (show w.heap.size + 1 + 1 < _ by omega) (show w.heap.size + 1 + 1 ≠ _ by omega)).trans i2
    have p2 := (hbr.frozen (p := ⟨w.heap.size + 1 + 1, 2, none⟩) (show w.heap.size + 1 + 1 < _ by omega) (show w.heap.size + 1 + 1 ≠ _ by omega)).trans j2
    have o3 := (hbr.cell (p := ⟨w.heap.size + 1 + 1, 3, none⟩) (show w.heap.size + 1 + 1 < _ by omega) (show w.heap.size + 1 + 1 ≠ _ by omega)).trans i3
    have p3 := (hbr.frozen (p := ⟨w.heap.size + 1 + 1, 3, none⟩) (show w.heap.size + 1 + 1 < _ by omega) (show w.heap.size + 1 + 1 ≠ _ by omega)).trans j3
    by_cases hlt : k < pl.length
    · obtain ⟨p, hpk⟩ : ∃ p, pl[k]? = some p := ⟨_, List.getElem?_eq_getElem hlt⟩
      obtain ⟨bk, off, vs, rfl, hSb, hlie, hrd⟩ := hR.get hpk
      replace hlie : Lie w3 bk (off + k * 11) vs := hlie
      have hSb' := hSeen _ hSb
      have hlie' := hlie.keep (fun q hq => hbr.cell (show q.block < _ by rw [hq]; exact hSb'.1) (by rw [hq]; exact hSb'.2))
      have hrd' : RdTS wr (fun b => b < w.heap.size ∨ New ((w1.setCell ⟨w.heap.size, 0, none⟩ (.int .i64 ((n : Int) + 1))).setCell ⟨w.heap.size, 1, none⟩ (.int .i64 d)) w3 b) p vs := RdTS.keep (fun q hq => hbr.cell (hSeen _ hq).1 (hSeen _ hq).2) _ _ hrd
      have HC := Lib.hid (fun (W : World) (hW : Below wr.heap.size wr W) => ih p (List.mem_of_getElem? hpk) vs n2 m2 (d + 1) W (RdTS.more (fun b hb9 => Nat.lt_of_lt_of_le (Nat.lt_of_lt_of_le (hSeen b hb9).1 hzr) hW.size) _ _ (RdTS.keep (fun q hq => hW.cell (Nat.lt_of_lt_of_le (hSeen _ hq).1 hzr)) _ _ hrd')))
      have hmk : (pl.map builtV)[k]? = some (builtV p) := by simp [hpk]
      have HN := Lib.hid (partL_take HT.out hmk)
      have hwhy := rpart_why (builtV p) (d + 1) ⟨n2, m2, 0⟩ rfl
      have hbad : (partV (builtV p) (d + 1) ⟨n2, m2, 0⟩).1 = false → (partV (builtV p) (d + 1) ⟨n2, m2, 0⟩).2.why ≠ 0 := bad_why
      generalize partV (builtV p) (d + 1) ⟨n2, m2, 0⟩ = r at *
      obtain ⟨q0, q1, q2, q3, q4, q5, q6, q7, q8, q9, q10, rfl, -⟩ := hrd.eleven
      have hbk : bk < wr.heap.size := by omega
      have hmul : k * 11 + off < k * 11 + off + 1 := by omega
      have v0 := hlie' 0 _ rfl
      have v1 := hlie' 1 _ rfl
      have v2 := hlie' 2 _ rfl
      have v3 := hlie' 3 _ rfl
      have v4 := hlie' 4 _ rfl
      have v5 := hlie' 5 _ rfl
      have v6 := hlie' 6 _ rfl
      have v7 := hlie' 7 _ rfl
      have v8 := hlie' 8 _ rfl
      have v9 := hlie' 9 _ rfl
      have v10 := hlie' 10 _ rfl
      simp only [Nat.add_zero] at v0
      clear hlie hlie' hrd hrd' hpk hSb hR hmk
      unfold SeenPost at HC
      rw [show ((d + 1 : Nat) : Int) = (d : Int) + 1 from rfl] at HC
      have hwd : IntKind.i64.wrap ((d : Int) + 1) = (d : Int) + 1 := by rw [IntKind.wrap_i64]; omega
      obtain ⟨ok, n3, m3, w3y⟩ := r
      unfold termOf at HC
      cases ok with
      | true =>
        obtain rfl : w3y = 0 := hwhy rfl
        have hsv : seenV (true, ⟨n3, m3, 0⟩) = .agg #[.int .i64 n3, .int .i64 m3, .int .i64 0, .int .i64 0] := rfl
        rw [hsv] at HC
        clear hsv hwhy hbad
        go_wp2_with fail
        refine wp_region_below_tail 8 (by kernel_rfl) (by kernel_rfl) ?_
        simp only [List.take_succ_cons, List.take_zero]
        repeat (refine WpC.step (fun K hK => ?_); go_simp; first | (refine hK _ ?_; clear hK K) | (apply Exists.intro; refine ⟨fun W hW => ?_, hK _ ?_⟩; (first | (intros; rfl) | (refine ⟨rfl, ?_⟩; rfl) | ((obtain ⟨hc, hf⟩ := bcellB hW; go_simp; rfl)) | ((go_at_call 46; refine (HC.out _ hW).mono ?_; rintro e w9 ⟨rfl, hb9⟩; exact ⟨rfl, below_then hW (Nat.le_refl _) hb9⟩))); clear hK K))
        refine WpC.nil ?_
        intro wq hwq
        simp only [List.drop_succ_cons, List.drop_zero]
        have hwl2 : w.heap.size + 1 + 1 < wr.heap.size := by omega
        have aa0 := (hwq.cell (p := ⟨w.heap.size, 0, none⟩) hwl).trans a0
        have bb0 := (hwq.frozen (p := ⟨w.heap.size, 0, none⟩) hwl).trans b0
        have oo0 := (hwq.cell (p := ⟨w.heap.size + 1 + 1, 0, none⟩) hwl2).trans o0
        have pp0 := (hwq.frozen (p := ⟨w.heap.size + 1 + 1, 0, none⟩) hwl2).trans p0
        have aa1 := (hwq.cell (p := ⟨w.heap.size, 1, none⟩) hwl).trans a1
        have bb1 := (hwq.frozen (p := ⟨w.heap.size, 1, none⟩) hwl).trans b1
        have oo1 := (hwq.cell (p := ⟨w.heap.size + 1 + 1, 1, none⟩) hwl2).trans o1
        have pp1 := (hwq.frozen (p := ⟨w.heap.size + 1 + 1, 1, none⟩) hwl2).trans p1
        have aa2 := (hwq.cell (p := ⟨w.heap.size, 2, none⟩) hwl).trans a2
        have bb2 := (hwq.frozen (p := ⟨w.heap.size, 2, none⟩) hwl).trans b2
        have oo2 := (hwq.cell (p := ⟨w.heap.size + 1 + 1, 2, none⟩) hwl2).trans o2
        have pp2 := (hwq.frozen (p := ⟨w.heap.size + 1 + 1, 2, none⟩) hwl2).trans p2
        have aa3 := (hwq.cell (p := ⟨w.heap.size, 3, none⟩) hwl).trans a3
        have bb3 := (hwq.frozen (p := ⟨w.heap.size, 3, none⟩) hwl).trans b3
        have oo3 := (hwq.cell (p := ⟨w.heap.size + 1 + 1, 3, none⟩) hwl2).trans o3
        have pp3 := (hwq.frozen (p := ⟨w.heap.size + 1 + 1, 3, none⟩) hwl2).trans p3
        have hb4 := (((((hbr.trans (Bes.of_below hwq)).set 0 (.int .i64 n3)).set 1 (.int .i64 m3)).set 2 (.int .i64 0)).set 3 (.int .i64 0))
        have z0 : ((((wq.setCell ⟨w.heap.size, 0, none⟩ (.int .i64 n3)).setCell ⟨w.heap.size, 1, none⟩ (.int .i64 m3)).setCell ⟨w.heap.size, 2, none⟩ (.int .i64 0)).setCell ⟨w.heap.size, 3, none⟩ (.int .i64 0)).cell? ⟨w.heap.size, 0, none⟩ = some (.int .i64 n3) := by simp [go_sem, aa0, aa1, aa2, aa3]
        have z1 : ((((wq.setCell ⟨w.heap.size, 0, none⟩ (.int .i64 n3)).setCell ⟨w.heap.size, 1, none⟩ (.int .i64 m3)).setCell ⟨w.heap.size, 2, none⟩ (.int .i64 0)).setCell ⟨w.heap.size, 3, none⟩ (.int .i64 0)).cell? ⟨w.heap.size, 1, none⟩ = some (.int .i64 m3) := by simp [go_sem, aa0, aa1, aa2, aa3]
        have z2 : ((((wq.setCell ⟨w.heap.size, 0, none⟩ (.int .i64 n3)).setCell ⟨w.heap.size, 1, none⟩ (.int .i64 m3)).setCell ⟨w.heap.size, 2, none⟩ (.int .i64 0)).setCell ⟨w.heap.size, 3, none⟩ (.int .i64 0)).cell? ⟨w.heap.size, 2, none⟩ = some (.int .i64 0) := by simp [go_sem, aa0, aa1, aa2, aa3]
        have z3 : ((((wq.setCell ⟨w.heap.size, 0, none⟩ (.int .i64 n3)).setCell ⟨w.heap.size, 1, none⟩ (.int .i64 m3)).setCell ⟨w.heap.size, 2, none⟩ (.int .i64 0)).setCell ⟨w.heap.size, 3, none⟩ (.int .i64 0)).cell? ⟨w.heap.size, 3, none⟩ = some (.int .i64 0) := by simp [go_sem, aa0, aa1, aa2, aa3]
        have y0 : ((((wq.setCell ⟨w.heap.size, 0, none⟩ (.int .i64 n3)).setCell ⟨w.heap.size, 1, none⟩ (.int .i64 m3)).setCell ⟨w.heap.size, 2, none⟩ (.int .i64 0)).setCell ⟨w.heap.size, 3, none⟩ (.int .i64 0)).frozen? ⟨w.heap.size, 0, none⟩ = false := by simp [go_sem, bb0, bb1, bb2, bb3]
        have y1 : ((((wq.setCell ⟨w.heap.size, 0, none⟩ (.int .i64 n3)).setCell ⟨w.heap.size, 1, none⟩ (.int .i64 m3)).setCell ⟨w.heap.size, 2, none⟩ (.int .i64 0)).setCell ⟨w.heap.size, 3, none⟩ (.int .i64 0)).frozen? ⟨w.heap.size, 1, none⟩ = false := by simp [go_sem, bb0, bb1, bb2, bb3]
        have y2 : ((((wq.setCell ⟨w.heap.size, 0, none⟩ (.int .i64 n3)).setCell ⟨w.heap.size, 1, none⟩ (.int .i64 m3)).setCell ⟨w.heap.size, 2, none⟩ (.int .i64 0)).setCell ⟨w.heap.size, 3, none⟩ (.int .i64 0)).frozen? ⟨w.heap.size, 2, none⟩ = false := by simp [go_sem, bb0, bb1, bb2, bb3]
        have y3 : ((((wq.setCell ⟨w.heap.size, 0, none⟩ (.int .i64 n3)).setCell ⟨w.heap.size, 1, none⟩ (.int .i64 m3)).setCell ⟨w.heap.size, 2, none⟩ (.int .i64 0)).setCell ⟨w.heap.size, 3, none⟩ (.int .i64 0)).frozen? ⟨w.heap.size, 3, none⟩ = false := by simp [go_sem, bb0, bb1, bb2, bb3]
        go_wp2
        refine ⟨⟨k + 1, n3, m3, rfl, hlt, Lib.hid HN.out, hb4, ⟨z0, z1, z2, z3⟩, y0, y1, y2, y3⟩, ?_⟩
        simp [intOf]; omega
      | false =>
        have hsv : seenV (false, ⟨n3, m3, w3y⟩) = .agg #[.int .i64 n3, .int .i64 m3, .int .i64 n3, .int .i64 w3y] := rfl
        have HE : Hid (seenV (partL (pl.map builtV) (d + 1) ⟨n + 1, d, 0⟩) = .agg #[.int .i64 n3, .int .i64 m3, .int .i64 n3, .int .i64 w3y]) := Lib.hid (by rw [partL_bad (k := k + 1) (by rw [HN.out]), HN.out]; rfl)
        rw [hsv] at HC
        have hy0 : w3y ≠ 0 := hbad rfl
        have hyq : ((w3y : Int) != 0) = true := by rw [bne_iff_ne]; omega
        clear hsv hwhy hbad
        go_wp2_with fail
        refine wp_region_below_tail 8 (by kernel_rfl) (by kernel_rfl) ?_
        simp only [List.take_succ_cons, List.take_zero]
        repeat (refine WpC.step (fun K hK => ?_); go_simp; first | (refine hK _ ?_; clear hK K) | (apply Exists.intro; refine ⟨fun W hW => ?_, hK _ ?_⟩; (first | (intros; rfl) | (refine ⟨rfl, ?_⟩; rfl) | ((obtain ⟨hc, hf⟩ := bcellB hW; go_simp; rfl)) | ((go_at_call 46; refine (HC.out _ hW).mono ?_; rintro e w9 ⟨rfl, hb9⟩; exact ⟨rfl, below_then hW (Nat.le_refl _) hb9⟩))); clear hK K))
        refine WpC.nil ?_
        intro wq hwq
        simp only [List.drop_succ_cons, List.drop_zero]
        have hwl2 : w.heap.size + 1 + 1 < wr.heap.size := by omega
        have aa0 := (hwq.cell (p := ⟨w.heap.size, 0, none⟩) hwl).trans a0
        have bb0 := (hwq.frozen (p := ⟨w.heap.size, 0, none⟩) hwl).trans b0
        have oo0 := (hwq.cell (p := ⟨w.heap.size + 1 + 1, 0, none⟩) hwl2).trans o0
        have pp0 := (hwq.frozen (p := ⟨w.heap.size + 1 + 1, 0, none⟩) hwl2).trans p0
        have aa1 := (hwq.cell (p := ⟨w.heap.size, 1, none⟩) hwl).trans a1
        have bb1 := (hwq.frozen (p := ⟨w.heap.size, 1, none⟩) hwl).trans b1
        have oo1 := (hwq.cell (p := ⟨w.heap.size + 1 + 1, 1, none⟩) hwl2).trans o1
        have pp1 := (hwq.frozen (p := ⟨w.heap.size + 1 + 1, 1, none⟩) hwl2).trans p1
        have aa2 := (hwq.cell (p := ⟨w.heap.size, 2, none⟩) hwl).trans a2
        have bb2 := (hwq.frozen (p := ⟨w.heap.size, 2, none⟩) hwl).trans b2
        have oo2 := (hwq.cell (p := ⟨w.heap.size + 1 + 1, 2, none⟩) hwl2).trans o2
        have pp2 := (hwq.frozen (p := ⟨w.heap.size + 1 + 1, 2, none⟩) hwl2).trans p2
        have aa3 := (hwq.cell (p := ⟨w.heap.size, 3, none⟩) hwl).trans a3
        have bb3 := (hwq.frozen (p := ⟨w.heap.size, 3, none⟩) hwl).trans b3
        have oo3 := (hwq.cell (p := ⟨w.heap.size + 1 + 1, 3, none⟩) hwl2).trans o3
        have pp3 := (hwq.frozen (p := ⟨w.heap.size + 1 + 1, 3, none⟩) hwl2).trans p3
        go_wp2
        (try simp only [Exit.inBlock, Exit.then]); refine bodyPost_ret (v := .agg #[.int .i64 n3, .int .i64 m3, .int .i64 n3, .int .i64 w3y]) (by simp [results, Tryz.results46, go_sem, oo0, oo1, oo2, oo3]) rfl ?_
        rw [HE.out]
        refine ⟨rfl, hb0r.trans ?_⟩
        have hwm : Below w.heap.size wr wq := hwq.mono (by omega)
        exact ((((((((hwm.setCell (p := ⟨w.heap.size, 0, none⟩) (Nat.le_refl _) _).setCell (p := ⟨w.heap.size, 1, none⟩) (Nat.le_refl _) _).setCell (p := ⟨w.heap.size, 2, none⟩) (Nat.le_refl _) _).setCell (p := ⟨w.heap.size, 3, none⟩) (Nat.le_refl _) _).setCell (p := ⟨w.heap.size + 1 + 1, 0, none⟩) (by show w.heap.size ≤ w.heap.size + 1 + 1; omega) _).setCell (p := ⟨w.heap.size + 1 + 1, 1, none⟩) (by show w.heap.size ≤ w.heap.size + 1 + 1; omega) _).setCell (p := ⟨w.heap.size + 1 + 1, 2, none⟩) (by show w.heap.size ≤ w.heap.size + 1 + 1; omega) _).setCell (p := ⟨w.heap.size + 1 + 1, 3, none⟩) (by show w.heap.size ≤ w.heap.size + 1 + 1; omega) _)
    · obtain rfl : k = pl.length := by omega
      have HE : Hid (seenV (partL (pl.map builtV) (d + 1) ⟨n + 1, d, 0⟩) = .agg #[.int .i64 n2, .int .i64 m2, .int .i64 0, .int .i64 0]) := Lib.hid (by
        have := HT.out
        rw [List.take_of_length_le (by simp)] at this
        rw [this]; rfl)
      have hwl2 : w.heap.size + 1 + 1 < wr.heap.size := by omega
      clear HT hR ih
      go_wp2
      (try simp only [Exit.inBlock, Exit.then]); refine bodyPost_ret (v := .agg #[.int .i64 n2, .int .i64 m2, .int .i64 0, .int .i64 0]) (by simp [results, Tryz.results46, go_sem, o0, o1, o2, o3]) rfl ?_
      rw [HE.out]
      refine ⟨rfl, hb0r.trans ?_⟩
      have hwm : Below w.heap.size wr wr := Below.refl _ _
      exact ((((hwm.setCell (p := ⟨w.heap.size + 1 + 1, 0, none⟩) (by show w.heap.size ≤ w.heap.size + 1 + 1; omega) _).setCell (p := ⟨w.heap.size + 1 + 1, 1, none⟩) (by show w.heap.size ≤ w.heap.size + 1 + 1; omega) _).setCell (p := ⟨w.heap.size + 1 + 1, 2, none⟩) (by show w.heap.size ≤ w.heap.size + 1 + 1; omega) _).setCell (p := ⟨w.heap.size + 1 + 1, 3, none⟩) (by show w.heap.size ≤ w.heap.size + 1 + 1; omega) _)
set_option maxRecDepth 100000 in
set_option maxHeartbeats 4000000 in
theorem rpart_okB (T : Tm) (ih : ∀ p ∈ partsT T, RPartC p) (x : List Value) (n dp d : Nat) (w : World) (hx : RdT w w.heap.size T x) (ho : ownV (builtV T) n d = 0) (hdp : ¬ dp < d) : Calls Tryz.prog 46 #[.agg #[.int .i64 n, .int .i64 dp, .int .i64 0, .int .i64 0], termOf x, .int .i64 d] w (SeenPost (partV (builtV T) d ⟨n, dp, 0⟩) w) := by
  have hmax : max dp d = dp := by omega
  have HR : Hid (partV (builtV T) d ⟨n, dp, 0⟩ = partL ((partsT T).map builtV) (d + 1) ⟨n + 1, dp, 0⟩) := Lib.hid (by rw [part_step, stepV_yes ho, hmax])
  obtain ⟨hn, hd⟩ := ownV_zero ho
  have hlen : (partsT T).length ≤ 1099511627776 := partsT_len hx
  have hx0 := Lib.hid hx
  obtain ⟨x0, x1, x2, x3, x4, x5, x6, x7, x8, x9, x10, rfl, -⟩ := hx.eleven
  have HB : Hid (Below w.heap.size w (((w.alloc (.cells #[.int .i64 n, .int .i64 dp, .int .i64 0, .int .i64 0] 121)).alloc (.cells #[x0, x1, x2, x3, x4, x5, x6, x7, x8, x9, x10] 29)).alloc (.cells #[.int .i64 0, .int .i64 0, .int .i64 0, .int .i64 0] 121))) := Lib.hid ((((Below.refl _ _).alloc (Nat.le_refl _) _).alloc (by simp) _).alloc (by simp; omega) _)
  have HO := Lib.hid (rown_any T [x0, x1, x2, x3, x4, x5, x6, x7, x8, x9, x10] n d (((w.alloc (.cells #[.int .i64 n, .int .i64 dp, .int .i64 0, .int .i64 0] 121)).alloc (.cells #[x0, x1, x2, x3, x4, x5, x6, x7, x8, x9, x10] 29)).alloc (.cells #[.int .i64 0, .int .i64 0, .int .i64 0, .int .i64 0] 121)) (RdT.more HB.out.size _ _ (RdT.below hx HB.out)))
  rw [ho] at HO
  have hsz : (((w.alloc (.cells #[.int .i64 n, .int .i64 dp, .int .i64 0, .int .i64 0] 121)).alloc (.cells #[x0, x1, x2, x3, x4, x5, x6, x7, x8, x9, x10] 29)).alloc (.cells #[.int .i64 0, .int .i64 0, .int .i64 0, .int .i64 0] 121)).heap.size = w.heap.size + 3 := by simp
  clear hx ho
  unfold SeenPost
  rw [HR.out]
  generalize hpl : (partsT T) = pl at *
  clear HR
  unfold termOf at HO ⊢
  go_enter Tryz.func46, Tryz.ntmps46
  go_wp2_with fail
  refine HO.out.mono ?_
  rintro e w1 ⟨rfl, hb1⟩
  have hz1 : w.heap.size + 3 ≤ w1.heap.size := by have := hb1.size; rw [hsz] at this; exact this
  have hb01 : Below w.heap.size w w1 := HB.out.trans (hb1.mono (by rw [hsz]; omega))
  have c0 : w1.cell? ⟨w.heap.size, 0, none⟩ = some (.int .i64 n) := (hb1.cell (p := ⟨w.heap.size, 0, none⟩) (show w.heap.size < _ by rw [hsz]; omega)).trans (by simp [go_sem])
  have f0 : w1.frozen? ⟨w.heap.size, 0, none⟩ = false := (hb1.frozen (p := ⟨w.heap.size, 0, none⟩) (show w.heap.size < _ by rw [hsz]; omega)).trans (by simp [go_sem])
  have c1 : w1.cell? ⟨w.heap.size, 1, none⟩ = some (.int .i64 dp) := (hb1.cell (p := ⟨w.heap.size, 1, none⟩) (show w.heap.size < _ by rw [hsz]; omega)).trans (by simp [go_sem])
  have f1 : w1.frozen? ⟨w.heap.size, 1, none⟩ = false := (hb1.frozen (p := ⟨w.heap.size, 1, none⟩) (show w.heap.size < _ by rw [hsz]; omega)).trans (by simp [go_sem])
  have c2 : w1.cell? ⟨w.heap.size, 2, none⟩ = some (.int .i64 0) := (hb1.cell (p := ⟨w.heap.size, 2, none⟩) (show w.heap.size < _ by rw [hsz]; omega)).trans (by simp [go_sem])
  have f2 : w1.frozen? ⟨w.heap.size, 2, none⟩ = false := (hb1.frozen (p := ⟨w.heap.size, 2, none⟩) (show w.heap.size < _ by rw [hsz]; omega)).trans (by simp [go_sem])
  have c3 : w1.cell? ⟨w.heap.size, 3, none⟩ = some (.int .i64 0) := (hb1.cell (p := ⟨w.heap.size, 3, none⟩) (show w.heap.size < _ by rw [hsz]; omega)).trans (by simp [go_sem])
  have f3 : w1.frozen? ⟨w.heap.size, 3, none⟩ = false := (hb1.frozen (p := ⟨w.heap.size, 3, none⟩) (show w.heap.size < _ by rw [hsz]; omega)).trans (by simp [go_sem])
  have d0 : w1.cell? ⟨w.heap.size + 1 + 1, 0, none⟩ = some (.int .i64 0) := (hb1.cell (p := ⟨w.heap.size + 1 + 1, 0, none⟩) (show w.heap.size + 1 + 1 < _ by rw [hsz]; omega)).trans (by simp [go_sem])
  have g0 : w1.frozen? ⟨w.heap.size + 1 + 1, 0, none⟩ = false := (hb1.frozen (p := ⟨w.heap.size + 1 + 1, 0, none⟩) (show w.heap.size + 1 + 1 < _ by rw [hsz]; omega)).trans (by simp [go_sem])
  have d1 : w1.cell? ⟨w.heap.size + 1 + 1, 1, none⟩ = some (.int .i64 0) := (hb1.cell (p := ⟨w.heap.size + 1 + 1, 1, none⟩) (show w.heap.size + 1 + 1 < _ by rw [hsz]; omega)).trans (by simp [go_sem])
  have g1 : w1.frozen? ⟨w.heap.size + 1 + 1, 1, none⟩ = false := (hb1.frozen (p := ⟨w.heap.size + 1 + 1, 1, none⟩) (show w.heap.size + 1 + 1 < _ by rw [hsz]; omega)).trans (by simp [go_sem])
  have d2 : w1.cell? ⟨w.heap.size + 1 + 1, 2, none⟩ = some (.int .i64 0) := (hb1.cell (p := ⟨w.heap.size + 1 + 1, 2, none⟩) (show w.heap.size + 1 + 1 < _ by rw [hsz]; omega)).trans (by simp [go_sem])
  have g2 : w1.frozen? ⟨w.heap.size + 1 + 1, 2, none⟩ = false := (hb1.frozen (p := ⟨w.heap.size + 1 + 1, 2, none⟩) (show w.heap.size + 1 + 1 < _ by rw [hsz]; omega)).trans (by simp [go_sem])
  have d3 : w1.cell? ⟨w.heap.size + 1 + 1, 3, none⟩ = some (.int .i64 0) := (hb1.cell (p := ⟨w.heap.size + 1 + 1, 3, none⟩) (show w.heap.size + 1 + 1 < _ by rw [hsz]; omega)).trans (by simp [go_sem])
  have g3 : w1.frozen? ⟨w.heap.size + 1 + 1, 3, none⟩ = false := (hb1.frozen (p := ⟨w.heap.size + 1 + 1, 3, none⟩) (show w.heap.size + 1 + 1 < _ by rw [hsz]; omega)).trans (by simp [go_sem])
  have c4 : ∀ k u, [x0, x1, x2, x3, x4, x5, x6, x7, x8, x9, x10][k]? = some u → w1.cell? ⟨w.heap.size + 1, k, none⟩ = some u := fun k u h => (hb1.cell (p := ⟨w.heap.size + 1, k, none⟩) (show w.heap.size + 1 < _ by rw [hsz]; omega)).trans (by rw [← h]; simp [go_sem])
  have e0 := c4 0 _ rfl
  have e1 := c4 1 _ rfl
  have e2 := c4 2 _ rfl
  have e3 := c4 3 _ rfl
  have e4 := c4 4 _ rfl
  have e5 := c4 5 _ rfl
  have e6 := c4 6 _ rfl
  have e7 := c4 7 _ rfl
  have e8 := c4 8 _ rfl
  have e9 := c4 9 _ rfl
  have e10 := c4 10 _ rfl
  clear c4
  have hW2 : (w1.setCell ⟨w.heap.size, 0, none⟩ (.int .i64 ((n : Int) + 1))).heap.size = w1.heap.size := by simp
  have hBW2 : Below w.heap.size w (w1.setCell ⟨w.heap.size, 0, none⟩ (.int .i64 ((n : Int) + 1))) := hb01.setCell (p := ⟨w.heap.size, 0, none⟩) (Nat.le_refl _) _
  have hx2 : RdTS (w1.setCell ⟨w.heap.size, 0, none⟩ (.int .i64 ((n : Int) + 1))) (fun b => b < w.heap.size) T [x0, x1, x2, x3, x4, x5, x6, x7, x8, x9, x10] := RdTS.keep (fun p hp => hBW2.cell hp) _ _ hx0.out
  have HP := Lib.hid (rparts_any T [x0, x1, x2, x3, x4, x5, x6, x7, x8, x9, x10] (w1.setCell ⟨w.heap.size, 0, none⟩ (.int .i64 ((n : Int) + 1))) (fun b => b < w.heap.size) (fun b h => by rw [hW2]; omega) hx2)
  unfold termOf at HP
  rw [hpl] at HP
  have s0 : (w1.setCell ⟨w.heap.size, 0, none⟩ (.int .i64 ((n : Int) + 1))).cell? ⟨w.heap.size, 0, none⟩ = some (.int .i64 ((n : Int) + 1)) := by simp [go_sem, c0, c1, c2, c3]
  have s1 : (w1.setCell ⟨w.heap.size, 0, none⟩ (.int .i64 ((n : Int) + 1))).cell? ⟨w.heap.size, 1, none⟩ = some (.int .i64 dp) := by simp [go_sem, c0, c1, c2, c3]
  have s2 : (w1.setCell ⟨w.heap.size, 0, none⟩ (.int .i64 ((n : Int) + 1))).cell? ⟨w.heap.size, 2, none⟩ = some (.int .i64 0) := by simp [go_sem, c0, c1, c2, c3]
  have s3 : (w1.setCell ⟨w.heap.size, 0, none⟩ (.int .i64 ((n : Int) + 1))).cell? ⟨w.heap.size, 3, none⟩ = some (.int .i64 0) := by simp [go_sem, c0, c1, c2, c3]
  have t0 : (w1.setCell ⟨w.heap.size, 0, none⟩ (.int .i64 ((n : Int) + 1))).frozen? ⟨w.heap.size, 0, none⟩ = false := by simp [go_sem, f0, f1, f2, f3]
  have t1 : (w1.setCell ⟨w.heap.size, 0, none⟩ (.int .i64 ((n : Int) + 1))).frozen? ⟨w.heap.size, 1, none⟩ = false := by simp [go_sem, f0, f1, f2, f3]
  have t2 : (w1.setCell ⟨w.heap.size, 0, none⟩ (.int .i64 ((n : Int) + 1))).frozen? ⟨w.heap.size, 2, none⟩ = false := by simp [go_sem, f0, f1, f2, f3]
  have t3 : (w1.setCell ⟨w.heap.size, 0, none⟩ (.int .i64 ((n : Int) + 1))).frozen? ⟨w.heap.size, 3, none⟩ = false := by simp [go_sem, f0, f1, f2, f3]
  have u0 : (w1.setCell ⟨w.heap.size, 0, none⟩ (.int .i64 ((n : Int) + 1))).cell? ⟨w.heap.size + 1 + 1, 0, none⟩ = some (.int .i64 0) := by simp [go_sem, d0, d1, d2, d3]
  have z0 : (w1.setCell ⟨w.heap.size, 0, none⟩ (.int .i64 ((n : Int) + 1))).frozen? ⟨w.heap.size + 1 + 1, 0, none⟩ = false := by simp [go_sem, g0, g1, g2, g3]
  have u1 : (w1.setCell ⟨w.heap.size, 0, none⟩ (.int .i64 ((n : Int) + 1))).cell? ⟨w.heap.size + 1 + 1, 1, none⟩ = some (.int .i64 0) := by simp [go_sem, d0, d1, d2, d3]
  have z1 : (w1.setCell ⟨w.heap.size, 0, none⟩ (.int .i64 ((n : Int) + 1))).frozen? ⟨w.heap.size + 1 + 1, 1, none⟩ = false := by simp [go_sem, g0, g1, g2, g3]
  have u2 : (w1.setCell ⟨w.heap.size, 0, none⟩ (.int .i64 ((n : Int) + 1))).cell? ⟨w.heap.size + 1 + 1, 2, none⟩ = some (.int .i64 0) := by simp [go_sem, d0, d1, d2, d3]
  have z2 : (w1.setCell ⟨w.heap.size, 0, none⟩ (.int .i64 ((n : Int) + 1))).frozen? ⟨w.heap.size + 1 + 1, 2, none⟩ = false := by simp [go_sem, g0, g1, g2, g3]
  have u3 : (w1.setCell ⟨w.heap.size, 0, none⟩ (.int .i64 ((n : Int) + 1))).cell? ⟨w.heap.size + 1 + 1, 3, none⟩ = some (.int .i64 0) := by simp [go_sem, d0, d1, d2, d3]
  have z3 : (w1.setCell ⟨w.heap.size, 0, none⟩ (.int .i64 ((n : Int) + 1))).frozen? ⟨w.heap.size + 1 + 1, 3, none⟩ = false := by simp [go_sem, g0, g1, g2, g3]
  clear hx2
  go_wp2_with fail
  refine HP.out.mono ?_
  rintro e w3 ⟨A, c, rfl, hR, hb3⟩
  have hz3 : w1.heap.size ≤ w3.heap.size := by have := hb3.size; rw [hW2] at this; exact this
  have hb03 : Below w.heap.size w w3 := hBW2.trans (hb3.mono (by rw [hW2]; omega))
  have k0 := (hb3.cell (p := ⟨w.heap.size, 0, none⟩) (show w.heap.size < _ by rw [hW2]; omega)).trans s0
  have l0 := (hb3.frozen (p := ⟨w.heap.size, 0, none⟩) (show w.heap.size < _ by rw [hW2]; omega)).trans t0
  have i0 := (hb3.cell (p := ⟨w.heap.size + 1 + 1, 0, none⟩) (show w.heap.size + 1 + 1 < _ by rw [hW2]; omega)).trans u0
  have j0 := (hb3.frozen (p := ⟨w.heap.size + 1 + 1, 0, none⟩) (show w.heap.size + 1 + 1 < _ by rw [hW2]; omega)).trans z0
  have k1 := (hb3.cell (p := ⟨w.heap.size, 1, none⟩) (show w.heap.size < _ by rw [hW2]; omega)).trans s1
  have l1 := (hb3.frozen (p := ⟨w.heap.size, 1, none⟩) (show w.heap.size < _ by rw [hW2]; omega)).trans t1
  have i1 := (hb3.cell (p := ⟨w.heap.size + 1 + 1, 1, none⟩) (show w.heap.size + 1 + 1 < _ by rw [hW2]; omega)).trans u1
  have j1 := (hb3.frozen (p := ⟨w.heap.size + 1 + 1, 1, none⟩) (show w.heap.size + 1 + 1 < _ by rw [hW2]; omega)).trans z1
  have k2 := (hb3.cell (p := ⟨w.heap.size, 2, none⟩) (show w.heap.size < _ by rw [hW2]; omega)).trans s2
  have l2 := (hb3.frozen (p := ⟨w.heap.size, 2, none⟩) (show w.heap.size < _ by rw [hW2]; omega)).trans t2
  have i2 := (hb3.cell (p := ⟨w.heap.size + 1 + 1, 2, none⟩) (show w.heap.size + 1 + 1 < _ by rw [hW2]; omega)).trans u2
  have j2 := (hb3.frozen (p := ⟨w.heap.size + 1 + 1, 2, none⟩) (show w.heap.size + 1 + 1 < _ by rw [hW2]; omega)).trans z2
  have k3 := (hb3.cell (p := ⟨w.heap.size, 3, none⟩) (show w.heap.size < _ by rw [hW2]; omega)).trans s3
  have l3 := (hb3.frozen (p := ⟨w.heap.size, 3, none⟩) (show w.heap.size < _ by rw [hW2]; omega)).trans t3
  have i3 := (hb3.cell (p := ⟨w.heap.size + 1 + 1, 3, none⟩) (show w.heap.size + 1 + 1 < _ by rw [hW2]; omega)).trans u3
  have j3 := (hb3.frozen (p := ⟨w.heap.size + 1 + 1, 3, none⟩) (show w.heap.size + 1 + 1 < _ by rw [hW2]; omega)).trans z3
  have hSeen : ∀ b, (b < w.heap.size ∨ New (w1.setCell ⟨w.heap.size, 0, none⟩ (.int .i64 ((n : Int) + 1))) w3 b) → b < w3.heap.size ∧ b ≠ w.heap.size := fun b hb9 => hb9.elim (fun h => ⟨by omega, by omega⟩) (fun h => ⟨h.2, by have := h.1; rw [hW2] at this; omega⟩)
  clear c0 c1 c2 c3 f0 f1 f2 f3 d0 d1 d2 d3 g0 g1 g2 g3 s0 s1 s2 s3 t0 t1 t2 t3 HP HO hb3 e0 e1 e2 e3 e4 e5 e6 e7 e8 e9 e10
  go_wp2_with fail
  go_loopw [9] (fun jx wr => ∃ k n2 m2 : Nat, jx = .int .i64 k ∧ k ≤ pl.length ∧ Hid (partL ((pl.map builtV).take k) (d + 1) ⟨n + 1, dp, 0⟩ = (true, ⟨n2, m2, 0⟩)) ∧ Bes w.heap.size w3 wr ∧
      (wr.cell? ⟨w.heap.size, 0, none⟩ = some (.int .i64 n2) ∧ wr.cell? ⟨w.heap.size, 1, none⟩ = some (.int .i64 m2) ∧ wr.cell? ⟨w.heap.size, 2, none⟩ = some (.int .i64 0) ∧ wr.cell? ⟨w.heap.size, 3, none⟩ = some (.int .i64 0)) ∧
      (wr.frozen? ⟨w.heap.size, 0, none⟩ = false ∧ wr.frozen? ⟨w.heap.size, 1, none⟩ = false ∧ wr.frozen? ⟨w.heap.size, 2, none⟩ = false ∧ wr.frozen? ⟨w.heap.size, 3, none⟩ = false)) (fun jx _ => pl.length - (intOf jx).toNat)
  case atStart => exact ⟨0, n + 1, dp, rfl, by omega, Lib.hid (by simp [partL]), Bes.refl _ _, ⟨by rw [k0]; rfl, k1, k2, k3⟩, l0, l1, l2, l3⟩
  case round =>
    obtain ⟨k, n2, m2, rfl, hk, HT, hbr, ⟨a0, a1, a2, a3⟩, b0, b1, b2, b3⟩ := hrel
    have hzr : w3.heap.size ≤ wr.heap.size := hbr.size
    have hwl : w.heap.size < wr.heap.size := by omega
    have hb0r : Below w.heap.size w wr := hb03.trans (hbr.below (by omega))
    have o0 := (hbr.cell (p := ⟨w.heap.size + 1 + 1, 0, none⟩) (show w.heap.size + 1 + 1 < _ by omega) (show w.heap.size + 1 + 1 ≠ _ by omega)).trans i0
    have p0 := (hbr.frozen (p := ⟨w.heap.size + 1 + 1, 0, none⟩) (show w.heap.size + 1 + 1 < _ by omega) (show w.heap.size + 1 + 1 ≠ _ by omega)).trans j0
    have o1 := (hbr.cell (p := ⟨w.heap.size + 1 + 1, 1, none⟩) (show w.heap.size + 1 + 1 < _ by omega) (show w.heap.size + 1 + 1 ≠ _ by omega)).trans i1
    have p1 := (hbr.frozen (p := ⟨w.heap.size + 1 + 1, 1, none⟩) (show w.heap.size + 1 + 1 < _ by omega) (show w.heap.size + 1 + 1 ≠ _ by omega)).trans j1
    have o2 := (hbr.cell (p := ⟨w.heap.size + 1 + 1, 2, none⟩) (show w.heap.size + 1 + 1 < _ by omega) (show w.heap.size + 1 + 1 ≠ _ by omega)).trans i2
    have p2 := (hbr.frozen (p := ⟨w.heap.size + 1 + 1, 2, none⟩) (show w.heap.size + 1 + 1 < _ by omega) (show w.heap.size + 1 + 1 ≠ _ by omega)).trans j2
    have o3 := (hbr.cell (p := ⟨w.heap.size + 1 + 1, 3, none⟩) (show w.heap.size + 1 + 1 < _ by omega) (show w.heap.size + 1 + 1 ≠ _ by omega)).trans i3
    have p3 := (hbr.frozen (p := ⟨w.heap.size + 1 + 1, 3, none⟩) (show w.heap.size + 1 + 1 < _ by omega) (show w.heap.size + 1 + 1 ≠ _ by omega)).trans j3
    by_cases hlt : k < pl.length
    · obtain ⟨p, hpk⟩ : ∃ p, pl[k]? = some p := ⟨_, List.getElem?_eq_getElem hlt⟩
      obtain ⟨bk, off, vs, rfl, hSb, hlie, hrd⟩ := hR.get hpk
      replace hlie : Lie w3 bk (off + k * 11) vs := hlie
      have hSb' := hSeen _ hSb
      have hlie' := hlie.keep (fun q hq => hbr.cell (show q.block < _ by rw [hq]; exact hSb'.1) (by rw [hq]; exact hSb'.2))
      have hrd' : RdTS wr (fun b => b < w.heap.size ∨ New (w1.setCell ⟨w.heap.size, 0, none⟩ (.int .i64 ((n : Int) + 1))) w3 b) p vs := RdTS.keep (fun q hq => hbr.cell (hSeen _ hq).1 (hSeen _ hq).2) _ _ hrd
      have HC := Lib.hid (fun (W : World) (hW : Below wr.heap.size wr W) => ih p (List.mem_of_getElem? hpk) vs n2 m2 (d + 1) W (RdTS.more (fun b hb9 => Nat.lt_of_lt_of_le (Nat.lt_of_lt_of_le (hSeen b hb9).1 hzr) hW.size) _ _ (RdTS.keep (fun q hq => hW.cell (Nat.lt_of_lt_of_le (hSeen _ hq).1 hzr)) _ _ hrd')))
      have hmk : (pl.map builtV)[k]? = some (builtV p) := by simp [hpk]
      have HN := Lib.hid (partL_take HT.out hmk)
      have hwhy := rpart_why (builtV p) (d + 1) ⟨n2, m2, 0⟩ rfl
      have hbad : (partV (builtV p) (d + 1) ⟨n2, m2, 0⟩).1 = false → (partV (builtV p) (d + 1) ⟨n2, m2, 0⟩).2.why ≠ 0 := bad_why
      generalize partV (builtV p) (d + 1) ⟨n2, m2, 0⟩ = r at *
      obtain ⟨q0, q1, q2, q3, q4, q5, q6, q7, q8, q9, q10, rfl, -⟩ := hrd.eleven
      have hbk : bk < wr.heap.size := by omega
      have hmul : k * 11 + off < k * 11 + off + 1 := by omega
      have v0 := hlie' 0 _ rfl
      have v1 := hlie' 1 _ rfl
      have v2 := hlie' 2 _ rfl
      have v3 := hlie' 3 _ rfl
      have v4 := hlie' 4 _ rfl
      have v5 := hlie' 5 _ rfl
      have v6 := hlie' 6 _ rfl
      have v7 := hlie' 7 _ rfl
      have v8 := hlie' 8 _ rfl
      have v9 := hlie' 9 _ rfl
      have v10 := hlie' 10 _ rfl
      simp only [Nat.add_zero] at v0
      clear hlie hlie' hrd hrd' hpk hSb hR hmk
      unfold SeenPost at HC
      rw [show ((d + 1 : Nat) : Int) = (d : Int) + 1 from rfl] at HC
      have hwd : IntKind.i64.wrap ((d : Int) + 1) = (d : Int) + 1 := by rw [IntKind.wrap_i64]; omega
      obtain ⟨ok, n3, m3, w3y⟩ := r
      unfold termOf at HC
      cases ok with
      | true =>
        obtain rfl : w3y = 0 := hwhy rfl
        have hsv : seenV (true, ⟨n3, m3, 0⟩) = .agg #[.int .i64 n3, .int .i64 m3, .int .i64 0, .int .i64 0] := rfl
        rw [hsv] at HC
        clear hsv hwhy hbad
        go_wp2_with fail
        refine wp_region_below_tail 8 (by kernel_rfl) (by kernel_rfl) ?_
        simp only [List.take_succ_cons, List.take_zero]
        repeat (refine WpC.step (fun K hK => ?_); go_simp; first | (refine hK _ ?_; clear hK K) | (apply Exists.intro; refine ⟨fun W hW => ?_, hK _ ?_⟩; (first | (intros; rfl) | (refine ⟨rfl, ?_⟩; rfl) | ((obtain ⟨hc, hf⟩ := bcellB hW; go_simp; rfl)) | ((go_at_call 46; refine (HC.out _ hW).mono ?_; rintro e w9 ⟨rfl, hb9⟩; exact ⟨rfl, below_then hW (Nat.le_refl _) hb9⟩))); clear hK K))
        refine WpC.nil ?_
        intro wq hwq
        simp only [List.drop_succ_cons, List.drop_zero]
        have hwl2 : w.heap.size + 1 + 1 < wr.heap.size := by omega
        have aa0 := (hwq.cell (p := ⟨w.heap.size, 0, none⟩) hwl).trans a0
        have bb0 := (hwq.frozen (p := ⟨w.heap.size, 0, none⟩) hwl).trans b0
        have oo0 := (hwq.cell (p := ⟨w.heap.size + 1 + 1, 0, none⟩) hwl2).trans o0
        have pp0 := (hwq.frozen (p := ⟨w.heap.size + 1 + 1, 0, none⟩) hwl2).trans p0
        have aa1 := (hwq.cell (p := ⟨w.heap.size, 1, none⟩) hwl).trans a1
        have bb1 := (hwq.frozen (p := ⟨w.heap.size, 1, none⟩) hwl).trans b1
        have oo1 := (hwq.cell (p := ⟨w.heap.size + 1 + 1, 1, none⟩) hwl2).trans o1
        have pp1 := (hwq.frozen (p := ⟨w.heap.size + 1 + 1, 1, none⟩) hwl2).trans p1
        have aa2 := (hwq.cell (p := ⟨w.heap.size, 2, none⟩) hwl).trans a2
        have bb2 := (hwq.frozen (p := ⟨w.heap.size, 2, none⟩) hwl).trans b2
        have oo2 := (hwq.cell (p := ⟨w.heap.size + 1 + 1, 2, none⟩) hwl2).trans o2
        have pp2 := (hwq.frozen (p := ⟨w.heap.size + 1 + 1, 2, none⟩) hwl2).trans p2
        have aa3 := (hwq.cell (p := ⟨w.heap.size, 3, none⟩) hwl).trans a3
        have bb3 := (hwq.frozen (p := ⟨w.heap.size, 3, none⟩) hwl).trans b3
        have oo3 := (hwq.cell (p := ⟨w.heap.size + 1 + 1, 3, none⟩) hwl2).trans o3
        have pp3 := (hwq.frozen (p := ⟨w.heap.size + 1 + 1, 3, none⟩) hwl2).trans p3
        have hb4 := (((((hbr.trans (Bes.of_below hwq)).set 0 (.int .i64 n3)).set 1 (.int .i64 m3)).set 2 (.int .i64 0)).set 3 (.int .i64 0))
        have z0 : ((((wq.setCell ⟨w.heap.size, 0, none⟩ (.int .i64 n3)).setCell ⟨w.heap.size, 1, none⟩ (.int .i64 m3)).setCell ⟨w.heap.size, 2, none⟩ (.int .i64 0)).setCell ⟨w.heap.size, 3, none⟩ (.int .i64 0)).cell? ⟨w.heap.size, 0, none⟩ = some (.int .i64 n3) := by simp [go_sem, aa0, aa1, aa2, aa3]
        have z1 : ((((wq.setCell ⟨w.heap.size, 0, none⟩ (.int .i64 n3)).setCell ⟨w.heap.size, 1, none⟩ (.int .i64 m3)).setCell ⟨w.heap.size, 2, none⟩ (.int .i64 0)).setCell ⟨w.heap.size, 3, none⟩ (.int .i64 0)).cell? ⟨w.heap.size, 1, none⟩ = some (.int .i64 m3) := by simp [go_sem, aa0, aa1, aa2, aa3]
        have z2 : ((((wq.setCell ⟨w.heap.size, 0, none⟩ (.int .i64 n3)).setCell ⟨w.heap.size, 1, none⟩ (.int .i64 m3)).setCell ⟨w.heap.size, 2, none⟩ (.int .i64 0)).setCell ⟨w.heap.size, 3, none⟩ (.int .i64 0)).cell? ⟨w.heap.size, 2, none⟩ = some (.int .i64 0) := by simp [go_sem, aa0, aa1, aa2, aa3]
        have z3 : ((((wq.setCell ⟨w.heap.size, 0, none⟩ (.int .i64 n3)).setCell ⟨w.heap.size, 1, none⟩ (.int .i64 m3)).setCell ⟨w.heap.size, 2, none⟩ (.int .i64 0)).setCell ⟨w.heap.size, 3, none⟩ (.int .i64 0)).cell? ⟨w.heap.size, 3, none⟩ = some (.int .i64 0) := by simp [go_sem, aa0, aa1, aa2, aa3]
        have y0 : ((((wq.setCell ⟨w.heap.size, 0, none⟩ (.int .i64 n3)).setCell ⟨w.heap.size, 1, none⟩ (.int .i64 m3)).setCell ⟨w.heap.size, 2, none⟩ (.int .i64 0)).setCell ⟨w.heap.size, 3, none⟩ (.int .i64 0)).frozen? ⟨w.heap.size, 0, none⟩ = false := by simp [go_sem, bb0, bb1, bb2, bb3]
        have y1 : ((((wq.setCell ⟨w.heap.size, 0, none⟩ (.int .i64 n3)).setCell ⟨w.heap.size, 1, none⟩ (.int .i64 m3)).setCell ⟨w.heap.size, 2, none⟩ (.int .i64 0)).setCell ⟨w.heap.size, 3, none⟩ (.int .i64 0)).frozen? ⟨w.heap.size, 1, none⟩ = false := by simp [go_sem, bb0, bb1, bb2, bb3]
        have y2 : ((((wq.setCell ⟨w.heap.size, 0, none⟩ (.int .i64 n3)).setCell ⟨w.heap.size, 1, none⟩ (.int .i64 m3)).setCell ⟨w.heap.size, 2, none⟩ (.int .i64 0)).setCell ⟨w.heap.size, 3, none⟩ (.int .i64 0)).frozen? ⟨w.heap.size, 2, none⟩ = false := by simp [go_sem, bb0, bb1, bb2, bb3]
        have y3 : ((((wq.setCell ⟨w.heap.size, 0, none⟩ (.int .i64 n3)).setCell ⟨w.heap.size, 1, none⟩ (.int .i64 m3)).setCell ⟨w.heap.size, 2, none⟩ (.int .i64 0)).setCell ⟨w.heap.size, 3, none⟩ (.int .i64 0)).frozen? ⟨w.heap.size, 3, none⟩ = false := by simp [go_sem, bb0, bb1, bb2, bb3]
        go_wp2
        refine ⟨⟨k + 1, n3, m3, rfl, hlt, Lib.hid HN.out, hb4, ⟨z0, z1, z2, z3⟩, y0, y1, y2, y3⟩, ?_⟩
        simp [intOf]; omega
      | false =>
        have hsv : seenV (false, ⟨n3, m3, w3y⟩) = .agg #[.int .i64 n3, .int .i64 m3, .int .i64 n3, .int .i64 w3y] := rfl
        have HE : Hid (seenV (partL (pl.map builtV) (d + 1) ⟨n + 1, dp, 0⟩) = .agg #[.int .i64 n3, .int .i64 m3, .int .i64 n3, .int .i64 w3y]) := Lib.hid (by rw [partL_bad (k := k + 1) (by rw [HN.out]), HN.out]; rfl)
        rw [hsv] at HC
        have hy0 : w3y ≠ 0 := hbad rfl
        have hyq : ((w3y : Int) != 0) = true := by rw [bne_iff_ne]; omega
        clear hsv hwhy hbad
        go_wp2_with fail
        refine wp_region_below_tail 8 (by kernel_rfl) (by kernel_rfl) ?_
        simp only [List.take_succ_cons, List.take_zero]
        repeat (refine WpC.step (fun K hK => ?_); go_simp; first | (refine hK _ ?_; clear hK K) | (apply Exists.intro; refine ⟨fun W hW => ?_, hK _ ?_⟩; (first | (intros; rfl) | (refine ⟨rfl, ?_⟩; rfl) | ((obtain ⟨hc, hf⟩ := bcellB hW; go_simp; rfl)) | ((go_at_call 46; refine (HC.out _ hW).mono ?_; rintro e w9 ⟨rfl, hb9⟩; exact ⟨rfl, below_then hW (Nat.le_refl _) hb9⟩))); clear hK K))
        refine WpC.nil ?_
        intro wq hwq
        simp only [List.drop_succ_cons, List.drop_zero]
        have hwl2 : w.heap.size + 1 + 1 < wr.heap.size := by omega
        have aa0 := (hwq.cell (p := ⟨w.heap.size, 0, none⟩) hwl).trans a0
        have bb0 := (hwq.frozen (p := ⟨w.heap.size, 0, none⟩) hwl).trans b0
        have oo0 := (hwq.cell (p := ⟨w.heap.size + 1 + 1, 0, none⟩) hwl2).trans o0
        have pp0 := (hwq.frozen (p := ⟨w.heap.size + 1 + 1, 0, none⟩) hwl2).trans p0
        have aa1 := (hwq.cell (p := ⟨w.heap.size, 1, none⟩) hwl).trans a1
        have bb1 := (hwq.frozen (p := ⟨w.heap.size, 1, none⟩) hwl).trans b1
        have oo1 := (hwq.cell (p := ⟨w.heap.size + 1 + 1, 1, none⟩) hwl2).trans o1
        have pp1 := (hwq.frozen (p := ⟨w.heap.size + 1 + 1, 1, none⟩) hwl2).trans p1
        have aa2 := (hwq.cell (p := ⟨w.heap.size, 2, none⟩) hwl).trans a2
        have bb2 := (hwq.frozen (p := ⟨w.heap.size, 2, none⟩) hwl).trans b2
        have oo2 := (hwq.cell (p := ⟨w.heap.size + 1 + 1, 2, none⟩) hwl2).trans o2
        have pp2 := (hwq.frozen (p := ⟨w.heap.size + 1 + 1, 2, none⟩) hwl2).trans p2
        have aa3 := (hwq.cell (p := ⟨w.heap.size, 3, none⟩) hwl).trans a3
        have bb3 := (hwq.frozen (p := ⟨w.heap.size, 3, none⟩) hwl).trans b3
        have oo3 := (hwq.cell (p := ⟨w.heap.size + 1 + 1, 3, none⟩) hwl2).trans o3
        have pp3 := (hwq.frozen (p := ⟨w.heap.size + 1 + 1, 3, none⟩) hwl2).trans p3
        go_wp2
        (try simp only [Exit.inBlock, Exit.then]); refine bodyPost_ret (v := .agg #[.int .i64 n3, .int .i64 m3, .int .i64 n3, .int .i64 w3y]) (by simp [results, Tryz.results46, go_sem, oo0, oo1, oo2, oo3]) rfl ?_
        rw [HE.out]
        refine ⟨rfl, hb0r.trans ?_⟩
        have hwm : Below w.heap.size wr wq := hwq.mono (by omega)
        exact ((((((((hwm.setCell (p := ⟨w.heap.size, 0, none⟩) (Nat.le_refl _) _).setCell (p := ⟨w.heap.size, 1, none⟩) (Nat.le_refl _) _).setCell (p := ⟨w.heap.size, 2, none⟩) (Nat.le_refl _) _).setCell (p := ⟨w.heap.size, 3, none⟩) (Nat.le_refl _) _).setCell (p := ⟨w.heap.size + 1 + 1, 0, none⟩) (by show w.heap.size ≤ w.heap.size + 1 + 1; omega) _).setCell (p := ⟨w.heap.size + 1 + 1, 1, none⟩) (by show w.heap.size ≤ w.heap.size + 1 + 1; omega) _).setCell (p := ⟨w.heap.size + 1 + 1, 2, none⟩) (by show w.heap.size ≤ w.heap.size + 1 + 1; omega) _).setCell (p := ⟨w.heap.size + 1 + 1, 3, none⟩) (by show w.heap.size ≤ w.heap.size + 1 + 1; omega) _)
    · obtain rfl : k = pl.length := by omega
      have HE : Hid (seenV (partL (pl.map builtV) (d + 1) ⟨n + 1, dp, 0⟩) = .agg #[.int .i64 n2, .int .i64 m2, .int .i64 0, .int .i64 0]) := Lib.hid (by
        have := HT.out
        rw [List.take_of_length_le (by simp)] at this
        rw [this]; rfl)
      have hwl2 : w.heap.size + 1 + 1 < wr.heap.size := by omega
      clear HT hR ih
      go_wp2
      (try simp only [Exit.inBlock, Exit.then]); refine bodyPost_ret (v := .agg #[.int .i64 n2, .int .i64 m2, .int .i64 0, .int .i64 0]) (by simp [results, Tryz.results46, go_sem, o0, o1, o2, o3]) rfl ?_
      rw [HE.out]
      refine ⟨rfl, hb0r.trans ?_⟩
      have hwm : Below w.heap.size wr wr := Below.refl _ _
      exact ((((hwm.setCell (p := ⟨w.heap.size + 1 + 1, 0, none⟩) (by show w.heap.size ≤ w.heap.size + 1 + 1; omega) _).setCell (p := ⟨w.heap.size + 1 + 1, 1, none⟩) (by show w.heap.size ≤ w.heap.size + 1 + 1; omega) _).setCell (p := ⟨w.heap.size + 1 + 1, 2, none⟩) (by show w.heap.size ≤ w.heap.size + 1 + 1; omega) _).setCell (p := ⟨w.heap.size + 1 + 1, 3, none⟩) (by show w.heap.size ≤ w.heap.size + 1 + 1; omega) _)
theorem partsT_mem {k : Int} {b : Bool} {i : Int} {f : Nat} {t : ByteArray} {bs : List UInt8} {r : Int} {l : List Tm} {d : List (ByteArray × Tm)} {c : ByteArray} {v : Int} {p : Tm} (h : p ∈ partsT (.mk k b i f t bs r l d c v)) : p ∈ l ∨ ∃ q ∈ d, q.2 = p := by
  replace h : p ∈ (if k = 8 then l else if k = 9 ∨ k = 10 then d.map (·.2) else []) := h
  split at h
  · exact .inl h
  · split at h
    · obtain ⟨q, hq, e⟩ := List.mem_map.1 h; exact .inr ⟨q, hq, e⟩
    · simp at h
theorem rpart_any (T : Tm) : RPartC T := by
  induction T using Tm.ind with
  | h k b i f t bs r l d c v ihl ihd =>
    intro x n dp dd w hx
    have ih : ∀ p ∈ partsT (.mk k b i f t bs r l d c v), RPartC p := fun p hp => (partsT_mem hp).elim (fun h => ihl p h) (fun ⟨q, hq, e⟩ => e ▸ ihd q hq)
    by_cases ho : ownV (builtV (.mk k b i f t bs r l d c v)) n dd = 0
    · by_cases hd : dp < dd
      · exact rpart_okA _ ih x n dp dd w hx ho hd
      · exact rpart_okB _ ih x n dp dd w hx ho hd
    · exact rpart_own _ x n dp dd w hx ho
set_option maxRecDepth 100000 in
set_option maxHeartbeats 4000000 in
theorem rcheck_any (T : Tm) (x : List Value) (w : World) (hx : RdT w w.heap.size T x) : Calls Tryz.prog 11 #[termOf x] w (CheckPost (builtV T) w) := by
  have HR : Hid (checkV (builtV T) = if (partV (builtV T) 1 ⟨0, 0, 0⟩).1 = true then (0, 0) else ((partV (builtV T) 1 ⟨0, 0, 0⟩).2.n, (partV (builtV T) 1 ⟨0, 0, 0⟩).2.why)) := Lib.hid rfl
  have hA : Below w.heap.size w (w.alloc (.cells #[x.getD 0 undef, x.getD 1 undef, x.getD 2 undef, x.getD 3 undef, x.getD 4 undef, x.getD 5 undef, x.getD 6 undef, x.getD 7 undef, x.getD 8 undef, x.getD 9 undef, x.getD 10 undef] 29)) := (Below.refl _ _).alloc (Nat.le_refl _) _
  have HP := Lib.hid (fun (W : World) (hW : Below w.heap.size w W) => rpart_any T x 0 0 1 W (RdT.more hW.size _ _ (RdT.below hx hW)))
  obtain ⟨x0, x1, x2, x3, x4, x5, x6, x7, x8, x9, x10, rfl, -⟩ := hx.eleven
  clear hx
  unfold SeenPost at HP
  unfold CheckPost
  rw [HR.out]
  generalize partV (builtV T) 1 ⟨0, 0, 0⟩ = r at *
  have HB := Lib.hid hA
  clear hA HR
  rw [show ((0 : Nat) : Int) = 0 from rfl, show ((1 : Nat) : Int) = 1 from rfl] at HP
  unfold termOf at HP ⊢
  obtain ⟨ok, n, dp, why⟩ := r
  cases ok with
  | true =>
    rw [if_pos rfl]
    have hsv : seenV (true, ⟨n, dp, why⟩) = .agg #[.int .i64 n, .int .i64 dp, .int .i64 0, .int .i64 0] := rfl
    rw [hsv] at HP
    clear hsv
    go_enter Tryz.func11, Tryz.ntmps11
    go_wp2_with fail
    refine (HP.out _ HB.out).mono ?_
    rintro e w1 ⟨rfl, hb1⟩
    have hz1 : w.heap.size ≤ w1.heap.size := Nat.le_trans HB.out.size hb1.size
    go_wp2
    refine wp_region_below_lit (by kernel_rfl) (by kernel_rfl) ?_
    repeat (refine WpC.step (fun K hK => ?_); go_simp; first | (refine hK _ ?_; clear hK K) | (apply Exists.intro; refine ⟨fun W hW => ?_, hK _ ?_⟩; (first | (intros; rfl) | (refine ⟨rfl, ?_⟩; rfl) | ((obtain ⟨hc, hf⟩ := bcellB hW; go_simp; rfl)) | ((go_simp; rfl))); clear hK K))
    refine WpC.nil ?_
    intro wq hwq
    go_wp2
    go_ret2
    exact ⟨rfl, (HB.out.trans (hb1.mono HB.out.size)).trans ((((Below.refl _ _).alloc hz1 _)).trans (hwq.mono (by simp; omega)))⟩
  | false =>
    rw [if_neg (by simp)]
    have hsv : seenV (false, ⟨n, dp, why⟩) = .agg #[.int .i64 n, .int .i64 dp, .int .i64 n, .int .i64 why] := rfl
    rw [hsv] at HP
    clear hsv
    go_enter Tryz.func11, Tryz.ntmps11
    go_wp2_with fail
    refine (HP.out _ HB.out).mono ?_
    rintro e w1 ⟨rfl, hb1⟩
    have hz1 : w.heap.size ≤ w1.heap.size := Nat.le_trans HB.out.size hb1.size
    go_wp2
    refine wp_region_below_lit (by kernel_rfl) (by kernel_rfl) ?_
    repeat (refine WpC.step (fun K hK => ?_); go_simp; first | (refine hK _ ?_; clear hK K) | (apply Exists.intro; refine ⟨fun W hW => ?_, hK _ ?_⟩; (first | (intros; rfl) | (refine ⟨rfl, ?_⟩; rfl) | ((obtain ⟨hc, hf⟩ := bcellB hW; go_simp; rfl)) | ((go_simp; rfl))); clear hK K))
    refine WpC.nil ?_
    intro wq hwq
    go_wp2
    go_ret2
    exact ⟨rfl, (HB.out.trans (hb1.mono HB.out.size)).trans ((((Below.refl _ _).alloc hz1 _)).trans (hwq.mono (by simp; omega)))⟩
end Go.Proofs.YtobpkelblpdajaaGreatDoor
