/- A range over a function whose iterator keeps state of its own in cells: the statement's law and a round's law, with no premise on what the caller's invariant speaks of. No condition. -/
import Derived.RangeFuncNested
import Derived.RangeFuncBound
import Derived.RangeFuncCalls
import Derived.RangeFuncLeaves
namespace Go.Proofs.YtcfplkbbgjiocaaDoor
open Go Go.RowKit
variable {F : Fence} {n : Nat} {P : Program}

/-- The record of a loop, in a state, with a pending jump. -/
structure LoopAt (W : World) (D l : Nat) (r : Loop) (st : LoopState) (pe : Option Code) : Prop where
  lrec : W.heap[l]? = some (.loop { r with state := st, pending := pe })
  ds : W.heap[D]? = some (.deferred (some []))
  ne : D ≠ l

theorem LoopAt.keep {W W' : World} {D l : Nat} {r : Loop} {st : LoopState} {pe : Option Code} (h : LoopAt W D l r st pe)
    (h1 : W'.heap[l]? = W.heap[l]?) (h2 : W'.heap[D]? = W.heap[D]?) : LoopAt W' D l r st pe :=
  ⟨h1.trans h.lrec, h2.trans h.ds, h.ne⟩

/-- Whatever is no cells stays as it lay. -/
theorem LoopAt.others {W W' : World} {D l : Nat} {r : Loop} {st : LoopState} {pe : Option Code} (h : LoopAt W D l r st pe)
    (hk : KeepsOthers W W') : LoopAt W' D l r st pe :=
  ⟨hk.same _ _ h.lrec rfl, hk.same _ _ h.ds rfl, h.ne⟩

theorem LoopAt.put {W : World} {D l : Nat} {r : Loop} {st st' : LoopState} {pe pe' : Option Code} (h : LoopAt W D l r st pe) :
    LoopAt (W.putObj l (.loop { r with state := st', pending := pe' })) D l r st' pe' :=
  ⟨World.putObj_heap_same (Array.getElem?_eq_some_iff.1 h.lrec).1, (World.putObj_heap_other h.ne).trans h.ds, h.ne⟩

/-- What a loop's record bears, but for its state. -/
structure LoopIs (r : Loop) (tmps : Array Value) (ps : Array Tmp) (assign body : Code) : Prop where
  tmps : r.tmps = tmps
  params : r.params = ps
  assign : r.assign = assign
  body : r.body = body

/-- The statement, outermost: the function that is ranged over is called in the world with the loop's two blocks. -/
theorem rangeFunc_open {g : Operand} {ps : Array Tmp} {assign body : Code} {Q : Exit → Act → World → Prop} {a : Act} {w : World}
    (hro : F.round = none) (h1 : 1 ≤ n) {gf : Nat} {lb : Array Value} (hg : a.eval g = .func (.func gf) #[] lb) (hFg : F.fn gf)
    (eg : ∀ args w, (callFunc gf args).run P w = .ok (.enter gf args) w) (D : Nat) (hD : w.heap.size = D)
    (h : ∀ (W1 : World) (r : Loop), F.fn r.fn → LoopIs r a.tmps ps assign body →
      LoopAt W1 D (D + 1) r .ready none →
      (∃ o o' : Obj, W1 = (w.alloc o).alloc o') →
      CallsIn F (n - 1) P gf (#[.func (.yield (D + 1)) #[] #[]] ++ lb) W1
        (rangePost F n P (D + 1) Q { a with defers := { target := .collected D, args := #[] } :: a.defers })) :
    (Code.rangeFunc g ps assign body).wpIn F n P Q a w := by
  subst hD
  refine wpIn_rangeFunc fun fn hfn => ?_
  rw [hro]
  obtain ⟨W1, hW1⟩ : ∃ W1, (w.alloc (.deferred (some []))).alloc (.loop { state := .ready, pending := none, fn, tmps := a.tmps, params := ps, assign, body, defers := w.heap.size }) = W1 := ⟨_, rfl⟩
  refine ⟨w.heap.size + 1, [{ target := .collected w.heap.size, args := #[] }], W1, { target := .fn (.func gf) lb, args := #[.func (.yield (w.heap.size + 1)) #[] #[]] }, W1, gf,
    #[.func (.yield (w.heap.size + 1)) #[] #[]] ++ lb, W1, ?_, ?_, ?_, ?_, fun _ => h1, ?_⟩
  · rw [← hW1]; exact run_enterLoop_outer _ _ _ _ _
  · simp only [resolve, hg]
    simp [go_sem]
  · intro f' hf'
    simp [Target.leads] at hf'
    subst hf'
    exact hFg
  · simp [invoke, go_sem, eg]
  · refine h _ { state := .ready, pending := none, fn, tmps := a.tmps, params := ps, assign, body, defers := w.heap.size } hfn ⟨rfl, rfl, rfl, rfl⟩ ⟨?_, ?_, by omega⟩ ⟨_, _, hW1.symm⟩
    · rw [← hW1]
      have := World.alloc_heap_new (w.alloc (.deferred (some []))) (.loop { state := .ready, pending := none, fn, tmps := a.tmps, params := ps, assign, body, defers := w.heap.size })
      rwa [World.size_alloc] at this
    · rw [← hW1]
      exact (Below.heap_alloc _ _ _ (by simp)).trans (World.alloc_heap_new w _)

/-- How a round's body may end: on, or by a jump; the loop's two blocks lie as the round found them. -/
def roundEnd (D l : Nat) (r : Loop) (On : World → Prop) (Out : Code → World → Prop) : Exit → Act → World → Prop
  | .normal, _, W' => LoopAt W' D l r .busy none ∧ On (W'.putObj l (.loop { r with state := .ready, pending := none }))
  | .ret, _, W' => LoopAt W' D l r .busy none ∧ Out .ret (W'.putObj l (.loop { r with state := .done, pending := some .ret }))
  | .exit id, _, W' => LoopAt W' D l r .busy none ∧ Out (.exit id) (W'.putObj l (.loop { r with state := .done, pending := some (.exit id) }))
  | .goto t, _, W' => LoopAt W' D l r .busy none ∧ Out (.goto t) (W'.putObj l (.loop { r with state := .done, pending := some (.goto t) }))
  | .panic _, _, _ => False
  | .outgrown, _, _ => False

/-- A call of yield: the assignment and the body, walked once. -/
theorem yield_open {m D l : Nat} {r : Loop} {args : Array Value} {tmps : Array Value} {ps : Array Tmp} {assign body : Code} {W : World} {On : World → Prop} {Out : Code → World → Prop}
    (hL : LoopAt W D l r .ready none) (hF : F.fn r.fn) (hr : LoopIs r tmps ps assign body) (hs : args.size = ps.size)
    (h : ∀ (R : Exit → Act → World → Prop), R = roundEnd D l r On Out → assign.wpIn (F.inRound l) m P (Exit.then (fun a₁ w₁ => ∃ w₂, (Instr.beginRound l).run P w₁ = .ok () w₂ ∧ body.wpIn (F.inRound l) m P R a₁ w₂) (fun _ _ _ => False))
      { tmps := (ps.zip args).foldl (fun t (p, v) => t.setIfInBounds p v) tmps, defers := [] } W) :
    YieldAt F m P l args W fun e W' => (e = .returned (.bool true) ∧ LoopAt W' D l r .ready none ∧ On W') ∨
      (e = .returned (.bool false) ∧ ∃ c, LoopAt W' D l r .done (some c) ∧ Out c W') := by
  obtain ⟨rfl, rfl, rfl, rfl⟩ := hr
  refine ⟨r.fn, _, r.assign, r.body, run_yield (P := P) (r := { r with state := .ready, pending := none }) (args := args) hL.lrec hs, roundIn_of_wpIn hF (wpIn_mono (h _ rfl) ?_)⟩
  rintro e a₁ w₁ hp
  cases e with
  | normal =>
    obtain ⟨w₂, hb, hw⟩ := hp
    refine ⟨w₂, hb, wpIn_mono hw ?_⟩
    rintro e a3 W3 hp
    cases e with
    | normal =>
      obtain ⟨hl, hon⟩ := hp
      exact ⟨_, _, run_endRound none hl.lrec, .inl ⟨rfl, hl.put, hon⟩⟩
    | ret =>
      obtain ⟨hl, ho⟩ := hp
      exact ⟨_, _, run_endRound (some .ret) hl.lrec, .inr ⟨rfl, _, hl.put, ho⟩⟩
    | exit id =>
      obtain ⟨hl, ho⟩ := hp
      exact ⟨_, _, run_endRound (some (.exit id)) hl.lrec, .inr ⟨rfl, _, hl.put, ho⟩⟩
    | goto t =>
      obtain ⟨hl, ho⟩ := hp
      exact ⟨_, _, run_endRound (some (.goto t)) hl.lrec, .inr ⟨rfl, _, hl.put, ho⟩⟩
    | panic ch => exact hp.elim
    | outgrown => exact hp.elim
  | exit id => exact hp.elim
  | goto t => exact hp.elim
  | ret => exact hp.elim
  | panic ch => exact hp.elim
  | outgrown => exact hp.elim

/-- The record was ready: it is busy. -/
theorem LoopAt.begin {W : World} {D l : Nat} {r : Loop} (h : LoopAt W D l r .ready none) :
    (Instr.beginRound l).run P W = .ok () (W.putObj l (.loop { r with state := .busy, pending := none })) :=
  run_beginRound (r := { r with state := .ready, pending := none }) h.lrec rfl

/-- What the statement owes when the function has returned. -/
theorem rangePost_done {l D : Nat} {r : Loop} {Q : Exit → Act → World → Prop} {a' : Act} {v : Value} {W : World}
    (h : LoopAt W D l r .ready none) (hq : LoopAt (W.putObj l (.loop { r with state := .exhausted, pending := none })) D l r .exhausted none → Q .normal a' (W.putObj l (.loop { r with state := .exhausted, pending := none }))) :
    rangePost F n P l Q a' (.returned v) W :=
  ⟨none, _, run_endLoop (P := P) h.lrec (by simp), hq h.put⟩
theorem rangePost_out {l D : Nat} {r : Loop} {Q : Exit → Act → World → Prop} {a' : Act} {v : Value} {W : World} {c : Code}
    (h : LoopAt W D l r .done (some c)) (hq : LoopAt (W.putObj l (.loop { r with state := .exhausted, pending := some c })) D l r .exhausted (some c) → c.wpIn F n P Q a' (W.putObj l (.loop { r with state := .exhausted, pending := some c }))) :
    rangePost F n P l Q a' (.returned v) W :=
  ⟨some c, _, run_endLoop (P := P) h.lrec (by simp), hq h.put⟩
end Go.Proofs.YtcfplkbbgjiocaaDoor
