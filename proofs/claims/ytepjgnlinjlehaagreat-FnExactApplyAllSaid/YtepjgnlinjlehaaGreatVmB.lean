/- The value machine, part B: what it means that a state of the machine stands for a frame and a world. -/
import Derived.Test.YtepjgnlinjlehaaGreatVmA
namespace Go.Vm
set_option linter.unusedSimpArgs false
set_option linter.unusedVariables false
open Go.RowKit

/-- A value that refers to object l. -/
def RefR (w : World) (st : List Ob) (β : Nat → Option Nat) (l : Nat) (u : Value) : Prop :=
  match st[l]? with
  | none => False
  | some ob => u.oneCell' = true ∧ (ob.live = true → match β l with
    | none => u = .slice none 0 0 ∧ ob.xs = []
    | some b => ∃ cap cs, u = .slice (some ⟨b, 0, none⟩) ob.xs.length cap ∧ ob.xs.length ≤ cap ∧ cap ≤ maxLen ∧ w.heap[b]? = some (.cells cs ob.ty (0, 0)) ∧ cs.size = cap * ob.sz)

def RdC (w : World) (St : Nat → Nat → Prop) (st : List Ob) (β : Nat → Option Nat) : Cl → Value → Prop
  | .ref l, u => RefR w st β l u
  | c, u => RdD w St c u

mutual
def AVR (w : World) (St : Nat → Nat → Prop) (st : List Ob) (β : Nat → Option Nat) : AV → Value → Prop
  | .c x, u => RdC w St st β x u
  | .agg xs, u => ∃ us : List Value, u = .agg us.toArray ∧ us.length = xs.length ∧ ∀ (k : Nat) (c : Cl), xs[k]? = some c → ∃ y, us[k]? = some y ∧ RdC w St st β c y
  | .lp l i off, u => match st[l]? with
    | none => False
    | some ob => ob.live = true → ∃ b, β l = some b ∧ u = .pointer (some ⟨b, i * ob.sz + off, none⟩)
  | .ip xs, u => ∃ b off, u = .pointer (some ⟨b, off, none⟩) ∧ RdL w St xs b off
  | .tup xs, u => ∃ us : List Value, u = .tuple us.toArray ∧ AVRs w St st β xs us
  | .undef, u => u = Go.undef
  | .un, _ => True
  | .pin x u0, u => u = u0 ∧ AVR w St st β x u
def AVRs (w : World) (St : Nat → Nat → Prop) (st : List Ob) (β : Nat → Option Nat) : List AV → List Value → Prop
  | [], us => us = []
  | x :: xs, us => ∃ y ys, us = y :: ys ∧ AVR w St st β x y ∧ AVRs w St st β xs ys
end

/-- A cell of an object: what a slice of its own holds is told elsewhere. -/
def RdB (w : World) (St : Nat → Nat → Prop) (st : List Ob) (β : Nat → Option Nat) : Cl → Value → Prop
  | .ow _ _ _, u => u.oneCell' = true
  | c, u => RdC w St st β c u

/-- An object in its block. -/
def ObR (w : World) (St : Nat → Nat → Prop) (st : List Ob) (β : Nat → Option Nat) (ob : Ob) (b : Nat) : Prop :=
  ∃ cs : Array Value, w.heap[b]? = some (.cells cs ob.ty (0, 0)) ∧ (∀ x ∈ ob.xs, x.length = ob.sz) ∧
    ∀ (k : Nat) (c : Cl), ob.xs.flatten[k]? = some c → ∃ u, cs[k]? = some u ∧ RdB w St st β c u

def isOw : Cl → Bool
  | .ow _ _ _ => true
  | _ => false

mutual
/-- A slice of its own: its blocks, all told, are in F. -/
def RdO (w : World) (St : Nat → Nat → Prop) : Cl → Value → (Nat → Prop) → Prop
  | .ow ty sz xs, u, F => (u = .slice none 0 0 ∧ xs = []) ∨ ∃ (b cap : Nat) (cs : Array Value) (G : Nat → Nat → Prop), u = .slice (some ⟨b, 0, none⟩) xs.length cap ∧ xs.length ≤ cap ∧ cap ≤ maxLen ∧
      w.heap[b]? = some (.cells cs ty (0, 0)) ∧ cs.size = cap * sz ∧ (∀ x ∈ xs, x.length = sz) ∧ F b ∧ (∀ k x, G k x → F x ∧ x ≠ b) ∧ (∀ k k' x, G k x → G k' x → k = k') ∧ RdOE w St xs 0 cs G
  | .v x, u, _ => u = x ∧ wfV x = true
  | .sl xs, u, _ => RdD w St (.sl xs) u
  | .ref _, _, _ => False
def RdOE (w : World) (St : Nat → Nat → Prop) : List (List Cl) → Nat → Array Value → (Nat → Nat → Prop) → Prop
  | [], _, _, _ => True
  | x :: xs, n, cs, G => RdOL w St x n cs G ∧ RdOE w St xs (n + x.length) cs G
def RdOL (w : World) (St : Nat → Nat → Prop) : List Cl → Nat → Array Value → (Nat → Nat → Prop) → Prop
  | [], _, _, _ => True
  | c :: cl, n, cs, G => (∃ y, cs[n]? = some y ∧ RdO w St c y (G n)) ∧ RdOL w St cl (n + 1) cs G
end

mutual
theorem RdO.mono {w w' : World} {St St' : Nat → Nat → Prop} (hS : ∀ b o, St b o → St' b o) (hw : ∀ b o, St b o → w'.cell? ⟨b, o, none⟩ = w.cell? ⟨b, o, none⟩) :
    ∀ (c : Cl) (u : Value) (F F' : Nat → Prop), (∀ x, F x → F' x) → (∀ x, F x → w'.heap[x]? = w.heap[x]?) → RdO w St c u F → RdO w' St' c u F'
  | .v x, u, F, F', _, _, h => by simp only [RdO] at h ⊢; exact h
  | .ref _, _, _, _, _, _, h => by simp [RdO] at h
  | .sl xs, u, F, F', _, _, h => by simp only [RdO] at h ⊢; exact RdD.mono hS hw _ _ h
  | .ow ty sz xs, u, F, F', hF, hh, h => by
    simp only [RdO] at h ⊢
    rcases h with h | ⟨b, cap, cs, G, h1, h2, h3, h4, h5, h6, h7, h8, h9, h10⟩
    · exact .inl h
    · exact .inr ⟨b, cap, cs, G, h1, h2, h3, by rw [hh b h7]; exact h4, h5, h6, hF b h7, fun k x hx => ⟨hF x (h8 k x hx).1, (h8 k x hx).2⟩, h9, RdOE.mono hS hw xs 0 cs G (fun k x hx => hh x (h8 k x hx).1) h10⟩
theorem RdOE.mono {w w' : World} {St St' : Nat → Nat → Prop} (hS : ∀ b o, St b o → St' b o) (hw : ∀ b o, St b o → w'.cell? ⟨b, o, none⟩ = w.cell? ⟨b, o, none⟩) :
    ∀ (xs : List (List Cl)) (n : Nat) (cs : Array Value) (G : Nat → Nat → Prop), (∀ k x, G k x → w'.heap[x]? = w.heap[x]?) → RdOE w St xs n cs G → RdOE w' St' xs n cs G
  | [], _, _, _, _, _ => by simp [RdOE]
  | x :: xs, n, cs, G, hh, h => by
    simp only [RdOE] at h ⊢
    exact ⟨RdOL.mono hS hw x n cs G hh h.1, RdOE.mono hS hw xs _ cs G hh h.2⟩
theorem RdOL.mono {w w' : World} {St St' : Nat → Nat → Prop} (hS : ∀ b o, St b o → St' b o) (hw : ∀ b o, St b o → w'.cell? ⟨b, o, none⟩ = w.cell? ⟨b, o, none⟩) :
    ∀ (cl : List Cl) (n : Nat) (cs : Array Value) (G : Nat → Nat → Prop), (∀ k x, G k x → w'.heap[x]? = w.heap[x]?) → RdOL w St cl n cs G → RdOL w' St' cl n cs G
  | [], _, _, _, _, _ => by simp [RdOL]
  | c :: cl, n, cs, G, hh, h => by
    simp only [RdOL] at h ⊢
    obtain ⟨⟨y, h1, h2⟩, h3⟩ := h
    exact ⟨⟨y, h1, RdO.mono hS hw c y (G n) (G n) (fun _ h => h) (fun x hx => hh n x hx) h2⟩, RdOL.mono hS hw cl _ cs G hh h3⟩
end

/-- Where a function starts: the world, and the old blocks that it may turn. -/
structure Bs where
  w : World
  own : Nat → Prop
def Bs.heap (b : Bs) : Array Obj := b.w.heap
def Bs.may (b : Bs) (x : Nat) : Prop := b.heap.size ≤ x ∨ b.own x
theorem Bs.may_of {b : Bs} {x : Nat} (h : b.heap.size ≤ x) : b.may x := .inl h
/-- The size of a block of cells. -/
def bsz (w : World) (k : Nat) : Nat := match w.heap[k]? with
  | some (.cells cs _ _) => cs.size
  | _ => 0
theorem bsz_eq {w w' : World} {k : Nat} (h : w'.heap[k]? = w.heap[k]?) : bsz w' k = bsz w k := by simp only [bsz, h]
theorem bsz_of {w w' : World} {k : Nat} {cs cs' : Array Value} {ty ty' : TypeId} {x x' : Nat × Nat} (h : w.heap[k]? = some (.cells cs ty x)) (h' : w'.heap[k]? = some (.cells cs' ty' x')) : bsz w' k = bsz w k ↔ cs'.size = cs.size := by simp only [bsz, h, h']
structure BelowB (w0 : Bs) (w : World) : Prop where
  rest : Below 0 w0.w w
  blk : ∀ k, k < w0.heap.size → ¬ w0.own k → w.heap[k]? = w0.heap[k]?
  siz : ∀ k, k < w0.heap.size → bsz w k = bsz w0.w k
theorem BelowB.size {w0 : Bs} {w : World} (h : BelowB w0 w) : w0.heap.size ≤ w.heap.size := h.rest.size
theorem BelowB.refl (w : World) (O : Nat → Prop) : BelowB ⟨w, O⟩ w := ⟨Below.refl _ _, fun _ _ _ => rfl, fun _ _ => rfl⟩
theorem BelowB.step {w0 : Bs} {w w' : World} (h : BelowB w0 w) {n : Nat} (hb : Below n w w') (hk : ∀ k, k < w0.heap.size → ¬ w0.own k → w'.heap[k]? = w.heap[k]?) (hs : ∀ k, k < w0.heap.size → bsz w' k = bsz w k) : BelowB w0 w' :=
  ⟨h.rest.trans (hb.mono (Nat.zero_le _)), fun k h1 h2 => (hk k h1 h2).trans (h.blk k h1 h2), fun k h1 => (hs k h1).trans (h.siz k h1)⟩
theorem BelowB.grow {w0 : Bs} {w w' : World} (h : BelowB w0 w) (hb : Below w.heap.size w w') : BelowB w0 w' :=
  h.step hb (fun k h1 _ => hb.block k (Nat.lt_of_lt_of_le h1 h.size)) fun k h1 => bsz_eq (hb.block k (Nat.lt_of_lt_of_le h1 h.size))
theorem BelowB.plain {w w' : World} (h : BelowB ⟨w, fun _ => False⟩ w') : Below w.heap.size w w' :=
  ⟨h.rest.os, h.rest.tape, h.rest.output, h.rest.size, fun k hk => h.blk k hk fun h => h⟩

/-- A block that may belong to a slice of its own. -/
def FreeB (w0 : Bs) (R : Nat → Prop) (w : World) (St : Nat → Nat → Prop) (st : List Ob) (β : Nat → Option Nat) (x : Nat) : Prop := w0.may x ∧ ¬ R x ∧ x < w.heap.size ∧ (∀ o, ¬ St x o) ∧ ∀ (l : Nat) (ob : Ob), st[l]? = some ob → ob.live = true → β l ≠ some x
/-- The slices of their own, within objects. -/
def Own (w0 : Bs) (R : Nat → Prop) (w : World) (St : Nat → Nat → Prop) (st : List Ob) (β : Nat → Option Nat) : Prop := ∃ φ : Nat → Nat → Nat → Prop,
  (∀ (l : Nat) (ob : Ob) (b k : Nat) (c : Cl), st[l]? = some ob → ob.live = true → β l = some b → ob.xs.flatten[k]? = some c → isOw c = true → ∃ u, w.cell? ⟨b, k, none⟩ = some u ∧ RdO w St c u (φ l k)) ∧
  (∀ l k x, φ l k x → (∃ ob b, st[l]? = some ob ∧ ob.live = true ∧ β l = some b) ∧ FreeB w0 R w St st β x) ∧
  ∀ l l' k k' x, φ l k x → φ l' k' x → l = l' ∧ k = k'

theorem Own.move {w0 : Bs} {R R' : Nat → Prop} {w w' : World} {St St' : Nat → Nat → Prop} {st st' : List Ob} {β β' : Nat → Option Nat} (h : Own w0 R w St st β) (σ : Nat → Nat)
    (hx : ∀ x, FreeB w0 R w St st β x → FreeB w0 R' w' St' st' β' x ∧ w'.heap[x]? = w.heap[x]?) (hS : ∀ b o, St b o → St' b o) (hw : ∀ b o, St b o → w'.cell? ⟨b, o, none⟩ = w.cell? ⟨b, o, none⟩)
    (hob : ∀ (l' : Nat) (ob' : Ob) (b k : Nat) (c : Cl), st'[l']? = some ob' → ob'.live = true → β' l' = some b → ob'.xs.flatten[k]? = some c → isOw c = true →
      ∃ ob b0, st[σ l']? = some ob ∧ ob.live = true ∧ β (σ l') = some b0 ∧ ob.xs.flatten[k]? = some c ∧ w'.cell? ⟨b, k, none⟩ = w.cell? ⟨b0, k, none⟩)
    (hσ : ∀ (l1 l2 : Nat) (o1 o2 : Ob), st'[l1]? = some o1 → st'[l2]? = some o2 → o1.live = true → o2.live = true → σ l1 = σ l2 → l1 = l2) : Own w0 R' w' St' st' β' := by
  obtain ⟨φ, h1, h2, h3⟩ := h
  refine ⟨fun l k x => (∃ ob b, st'[l]? = some ob ∧ ob.live = true ∧ β' l = some b) ∧ φ (σ l) k x, ?_, ?_, ?_⟩
  · intro l ob b k c hl hlive hβ hk hc
    obtain ⟨ob0, b0, g1, g2, g3, g4, g5⟩ := hob l ob b k c hl hlive hβ hk hc
    obtain ⟨u, hu, hr⟩ := h1 _ ob0 b0 k c g1 g2 g3 g4 hc
    exact ⟨u, by rw [g5]; exact hu, RdO.mono hS hw c u _ _ (fun x hxx => ⟨⟨ob, b, hl, hlive, hβ⟩, hxx⟩) (fun x hxx => (hx x (h2 _ _ x hxx).2).2) hr⟩
  · rintro l k x ⟨hl, hxx⟩
    exact ⟨hl, (hx x (h2 _ _ x hxx).2).1⟩
  · rintro l l' k k' x ⟨⟨o1, b1, q1, q2, _⟩, hxx⟩ ⟨⟨o2, b2, r1, r2, _⟩, hxx'⟩
    obtain ⟨e1, e2⟩ := h3 _ _ _ _ x hxx hxx'
    exact ⟨hσ l l' o1 o2 q1 r1 q2 r2 e1, e2⟩

structure Core (w0 : Bs) (St0 St : Nat → Nat → Prop) (β : Nat → Option Nat) (s : MS) (a : Act) (w : World) : Prop where
  defers : a.defers = []
  size : a.tmps.size = s.n
  env : ∀ i, AVR w St s.st β (eget s.env i) (a.tmps.getD i undef)
  below : BelowB w0 w
  st0 : ∀ b o, St0 b o → St b o
  stOld : ∀ b o, St b o → b < w0.heap.size → ¬ w0.own b → St0 b o
  stIn : ∀ b o, St b o → b < w.heap.size
  obs : ∀ l ob b, s.st[l]? = some ob → ob.live = true → β l = some b → w0.may b ∧ b < w.heap.size ∧ ObR w St s.st β ob b
  nil : ∀ l ob, s.st[l]? = some ob → ob.live = true → β l = none → ob.xs = []
  inj : ∀ l l' ob ob' b, s.st[l]? = some ob → s.st[l']? = some ob' → ob.live = true → ob'.live = true → β l = some b → β l' = some b → l = l'
  sep : ∀ l ob b o, s.st[l]? = some ob → ob.live = true → β l = some b → St b o → ob.wr = false ∧ o < ob.xs.length * ob.sz
  own : Own w0 (fun _ => False) w St s.st β

def Sim (w0 : Bs) (St0 : Nat → Nat → Prop) (s : MS) (a : Act) (w : World) : Prop := ∃ St β, Core w0 St0 St β s a w

theorem RdC.mono {w w' : World} {St St' : Nat → Nat → Prop} {st st' : List Ob} {β β' : Nat → Option Nat} (hS : ∀ b o, St b o → St' b o) (hw : ∀ b o, St b o → w'.cell? ⟨b, o, none⟩ = w.cell? ⟨b, o, none⟩)
    (hr : ∀ l u, RefR w st β l u → RefR w' st' β' l u) (c : Cl) (u : Value) (h : RdC w St st β c u) : RdC w' St' st' β' c u := by
  cases c with
  | ref l => exact hr l u h
  | v x => exact RdD.mono hS hw _ _ h
  | sl xs => exact RdD.mono hS hw _ _ h
  | ow ty sz xs => simp [RdC, RdD] at h
theorem RdC.toB {w : World} {St : Nat → Nat → Prop} {st : List Ob} {β : Nat → Option Nat} {c : Cl} {u : Value} (h : RdC w St st β c u) : RdB w St st β c u := by
  cases c with
  | ow ty sz xs => simp [RdC, RdD] at h
  | _ => exact h
theorem RdB.toC {w : World} {St : Nat → Nat → Prop} {st : List Ob} {β : Nat → Option Nat} {c : Cl} {u : Value} (hc : isOw c = false) (h : RdB w St st β c u) : RdC w St st β c u := by
  cases c with
  | ow ty sz xs => simp [isOw] at hc
  | _ => exact h
theorem RdC.notOw {w : World} {St : Nat → Nat → Prop} {st : List Ob} {β : Nat → Option Nat} {c : Cl} {u : Value} (h : RdC w St st β c u) : isOw c = false := by
  cases c with
  | ow ty sz xs => simp [RdC, RdD] at h
  | _ => rfl
theorem RdB.mono {w w' : World} {St St' : Nat → Nat → Prop} {st st' : List Ob} {β β' : Nat → Option Nat} (hS : ∀ b o, St b o → St' b o) (hw : ∀ b o, St b o → w'.cell? ⟨b, o, none⟩ = w.cell? ⟨b, o, none⟩)
    (hr : ∀ l u, RefR w st β l u → RefR w' st' β' l u) (c : Cl) (u : Value) (h : RdB w St st β c u) : RdB w' St' st' β' c u := by
  cases c with
  | ow ty sz xs => exact h
  | v x => exact RdC.mono hS hw hr (.v x) u h
  | sl xs => exact RdC.mono hS hw hr (.sl xs) u h
  | ref l => exact RdC.mono hS hw hr (.ref l) u h

mutual
theorem AVR.mono {w w' : World} {St St' : Nat → Nat → Prop} {st st' : List Ob} {β β' : Nat → Option Nat} (hS : ∀ b o, St b o → St' b o) (hw : ∀ b o, St b o → w'.cell? ⟨b, o, none⟩ = w.cell? ⟨b, o, none⟩)
    (hr : ∀ l u, RefR w st β l u → RefR w' st' β' l u) (hp : ∀ l i off u, AVR w St st β (.lp l i off) u → AVR w' St' st' β' (.lp l i off) u) :
    ∀ (x : AV) (u : Value), AVR w St st β x u → AVR w' St' st' β' x u
  | .c x, u, h => by simp only [AVR] at h ⊢; exact RdC.mono hS hw hr x u h
  | .agg xs, u, h => by
    simp only [AVR] at h ⊢
    obtain ⟨us, h1, h2, h3⟩ := h
    refine ⟨us, h1, h2, fun k c hk => ?_⟩
    obtain ⟨y, hy, hc⟩ := h3 k c hk
    exact ⟨y, hy, RdC.mono hS hw hr c y hc⟩
  | .lp l i off, u, h => hp l i off u h
  | .ip xs, u, h => by
    simp only [AVR] at h ⊢
    obtain ⟨b, off, h1, h2⟩ := h
    exact ⟨b, off, h1, RdL.mono hS hw xs b off h2⟩
  | .tup xs, u, h => by
    simp only [AVR] at h ⊢
    obtain ⟨us, h1, h2⟩ := h
    exact ⟨us, h1, AVRs.mono hS hw hr hp xs us h2⟩
  | .undef, _, h => by simp only [AVR] at h ⊢; exact h
  | .un, _, _ => by simp only [AVR]
  | .pin x u0, u, h => by
    simp only [AVR] at h ⊢
    exact ⟨h.1, AVR.mono hS hw hr hp x u h.2⟩
theorem AVRs.mono {w w' : World} {St St' : Nat → Nat → Prop} {st st' : List Ob} {β β' : Nat → Option Nat} (hS : ∀ b o, St b o → St' b o) (hw : ∀ b o, St b o → w'.cell? ⟨b, o, none⟩ = w.cell? ⟨b, o, none⟩)
    (hr : ∀ l u, RefR w st β l u → RefR w' st' β' l u) (hp : ∀ l i off u, AVR w St st β (.lp l i off) u → AVR w' St' st' β' (.lp l i off) u) :
    ∀ (xs : List AV) (us : List Value), AVRs w St st β xs us → AVRs w' St' st' β' xs us
  | [], us, h => by simp only [AVRs] at h ⊢; exact h
  | x :: xs, us, h => by
    simp only [AVRs] at h ⊢
    obtain ⟨y, ys, h1, h2, h3⟩ := h
    exact ⟨y, ys, h1, AVR.mono hS hw hr hp x y h2, AVRs.mono hS hw hr hp xs ys h3⟩
end

theorem ObR.mono {w w' : World} {St St' : Nat → Nat → Prop} {st st' : List Ob} {β β' : Nat → Option Nat} (hS : ∀ b o, St b o → St' b o) (hw : ∀ b o, St b o → w'.cell? ⟨b, o, none⟩ = w.cell? ⟨b, o, none⟩)
    (hr : ∀ l u, RefR w st β l u → RefR w' st' β' l u) {ob : Ob} {b : Nat} (hb : w'.heap[b]? = w.heap[b]?) (h : ObR w St st β ob b) : ObR w' St' st' β' ob b := by
  obtain ⟨cs, h1, h2, h3⟩ := h
  refine ⟨cs, by rw [hb]; exact h1, h2, fun k c hk => ?_⟩
  obtain ⟨u, hu, hc⟩ := h3 k c hk
  exact ⟨u, hu, RdB.mono hS hw hr c u hc⟩

theorem cell_of_block {w w' : World} {b o : Nat} (h : w'.heap[b]? = w.heap[b]?) : w'.cell? ⟨b, o, none⟩ = w.cell? ⟨b, o, none⟩ := by simp [World.cell?, h]

theorem Own.grow {w0 : Bs} {R R' : Nat → Prop} {w w' : World} {St St' : Nat → Nat → Prop} {st : List Ob} {β : Nat → Option Nat} (h : Own w0 R w St st β) (hb : Below w.heap.size w w')
    (hS : ∀ b o, St b o → St' b o) (hS' : ∀ b o, St' b o → b < w.heap.size → St b o) (hin : ∀ b o, St b o → b < w.heap.size)
    (hob : ∀ (l : Nat) (ob : Ob) (b : Nat), st[l]? = some ob → ob.live = true → β l = some b → b < w.heap.size) (hR : ∀ x, x < w.heap.size → R' x → R x) : Own w0 R' w' St' st β := by
  refine h.move id (fun x hx => ?_) hS (fun b o hbo => cell_of_block (hb.block b (hin b o hbo))) (fun l ob b k c h1 h2 h3 h4 h5 => ?_) (fun _ _ _ _ _ _ _ _ e => e)
  · obtain ⟨q1, q2, q3, q4, q5⟩ := hx
    exact ⟨⟨q1, fun h => q2 (hR x q3 h), Nat.lt_of_lt_of_le q3 hb.size, fun o ho => q4 o (hS' x o ho q3), q5⟩, hb.block x q3⟩
  · exact ⟨ob, b, h1, h2, h3, h4, cell_of_block (hb.block b (hob l ob b h1 h2 h3))⟩

/-- A change of the world that leaves all old blocks alone: alloc, a draw, a call. -/
theorem Core.grow {w0 : Bs} {St0 St : Nat → Nat → Prop} {β : Nat → Option Nat} {s : MS} {a : Act} {w w' : World} (h : Core w0 St0 St β s a w) (hb : Below w.heap.size w w')
    {St' : Nat → Nat → Prop} (hS : ∀ b o, St b o → St' b o) (hS' : ∀ b o, St' b o → b < w.heap.size → St b o) (hin : ∀ b o, St' b o → b < w'.heap.size) : Core w0 St0 St' β s a w' := by
  have hw0 : w0.heap.size ≤ w.heap.size := h.below.size
  have hblk : ∀ k, k < w.heap.size → w'.heap[k]? = w.heap[k]? := hb.block
  have hw : ∀ b o, St b o → w'.cell? ⟨b, o, none⟩ = w.cell? ⟨b, o, none⟩ := fun b o hbo => cell_of_block (hblk b (h.stIn b o hbo))
  have hr : ∀ l u, RefR w s.st β l u → RefR w' s.st β l u := by
    intro l u hu
    unfold RefR at hu ⊢
    cases hl : s.st[l]? with
    | none => simp [hl] at hu
    | some ob =>
      simp only [hl] at hu ⊢
      refine ⟨hu.1, fun hlive => ?_⟩
      have hu2 := hu.2 hlive
      cases hβ : β l with
      | none => simpa [hβ] using hu2
      | some b =>
        simp only [hβ] at hu2 ⊢
        obtain ⟨cap, cs, h1, h2, h3, h4, h5⟩ := hu2
        exact ⟨cap, cs, h1, h2, h3, by rw [hblk b (h.obs l ob b hl hlive hβ).2.1]; exact h4, h5⟩
  have hp : ∀ l i off u, AVR w St s.st β (.lp l i off) u → AVR w' St' s.st β (.lp l i off) u := by
    intro l i off u hu; simpa only [AVR] using hu
  exact {
    defers := h.defers
    size := h.size
    env := fun i => AVR.mono hS hw hr hp _ _ (h.env i)
    below := h.below.grow hb
    st0 := fun b o hbo => hS b o (h.st0 b o hbo)
    stOld := fun b o hbo hlt => h.stOld b o (hS' b o hbo (Nat.lt_of_lt_of_le hlt hw0)) hlt
    stIn := hin
    obs := fun l ob b hl hlive hβ => by
      obtain ⟨h1, h2, h3⟩ := h.obs l ob b hl hlive hβ
      exact ⟨h1, Nat.lt_of_lt_of_le h2 hb.size, ObR.mono hS hw hr (hblk b h2) h3⟩
    nil := h.nil
    inj := h.inj
    sep := fun l ob b o hl hlive hβ hbo => h.sep l ob b o hl hlive hβ (hS' b o hbo (h.obs l ob b hl hlive hβ).2.1)
    own := h.own.grow hb hS hS' h.stIn (fun l ob b h1 h2 h3 => (h.obs l ob b h1 h2 h3).2.1) (fun _ _ h => h) }

/-- Writing a temporary. -/
theorem Core.put {w0 : Bs} {St0 St : Nat → Nat → Prop} {β : Nat → Option Nat} {s : MS} {a : Act} {w : World} (h : Core w0 St0 St β s a w) (d : Option Nat) {x : AV} {u : Value} (hx : AVR w St s.st β x u) :
    Core w0 St0 St β (s.put d x) (a.put d u) w := by
  cases d with
  | none => exact h
  | some d =>
    by_cases hd : d < s.n
    · have e1 : s.put (some d) x = ⟨s.n, (d, x) :: s.env, s.st⟩ := by simp [MS.put, hd]
      rw [e1]
      exact {
        defers := h.defers
        size := by simpa [Act.put] using h.size
        env := fun i => by
          simp only [eget, Act.put]
          by_cases hi : d = i
          · subst hi
            have : d < a.tmps.size := by rw [h.size]; exact hd
            simpa [this] using hx
          · have := h.env i
            simpa [hi, Array.getElem?_setIfInBounds] using this
        below := h.below, st0 := h.st0, stOld := h.stOld, stIn := h.stIn, obs := h.obs, nil := h.nil, inj := h.inj, sep := h.sep, own := h.own }
    · have e1 : s.put (some d) x = s := by simp [MS.put, hd]
      rw [e1]
      have e2 : a.put (some d) u = a := by
        have : ¬ d < a.tmps.size := by rw [h.size]; exact hd
        cases a
        simp only [Act.put, Act.mk.injEq, and_true]
        simp only at this
        exact Array.setIfInBounds_eq_of_size_le (by omega)
      rw [e2]
      exact h

theorem AVR.un {w : World} {St : Nat → Nat → Prop} {st : List Ob} {β : Nat → Option Nat} {u : Value} : AVR w St st β .un u := by simp only [AVR]

end Go.Vm
