/- Walks: Came, There, chunkOf, RowsOf (chunks only), Unpacked. -/
import Derived.Test.YteiibjajcbiaoaaGreatDa
import Derived.Test.YteiibjajcbiaoaaGreatTy
namespace Go.Proofs.YteiibjajcbiaoaaGreat
set_option linter.unusedSimpArgs false
set_option linter.unusedVariables false
open Go.Vm
set_option maxHeartbeats 2000000
set_option maxRecDepth 10000

theorem lIn_spec (a b c : Int) : Ctr Tryz.prog 114 [.c (.v (.int .i64 a)), .c (.v (.int .i64 b)), .c (.v (.int .i64 c))] [.val (.c (.v (.bool (decide (a ≥ b) && decide (a ≤ c)))))] := by
  refine Ctr.mk (fn := Tryz.f114) Tryz.call114 Tryz.func114 rfl mixed Tryz.ntmps114 Tryz.results114 (by kernel_rfl) rfl fun hw => ?_
  rcases h1 : decide (a ≥ b) with _ | _ <;> simp only [go_sem, List.getElem?_toArray, Nat.reduceAdd, Nat.reduceSub, Nat.reduceMul, Nat.reduceLT, Nat.reduceLeDiff, Nat.reduceEqDiff, Nat.succ_ne_zero, reduceIte, h1] <;> simp only [Bool.false_and, Bool.true_and]

def came (n ts : Int) : Bool := decide (n ≥ 1) && decide (n ≤ ts)
theorem sCame_spec (n ts : Int) : Ctr Tryz.prog 79 [.c (.v (.int .i64 n)), .c (.v (.int .i64 ts))] [.val (.c (.v (.bool (came n ts))))] := by
  refine Ctr.mk (fn := Tryz.f79) Tryz.call79 Tryz.func79 rfl mixed Tryz.ntmps79 Tryz.results79 (by kernel_rfl) rfl fun hw => ?_
  simp only [go_sem, List.getElem?_toArray, Nat.reduceAdd, Nat.reduceSub, Nat.reduceMul, Nat.reduceLT, Nat.reduceLeDiff, Nat.reduceEqDiff, Nat.succ_ne_zero, reduceIte]
  refine CallK.mk _ (lIn_spec n 1 ts) fun _ => ?_
  simp only [go_sem, List.getElem?_toArray, Nat.reduceAdd, Nat.reduceSub, Nat.reduceMul, Nat.reduceLT, Nat.reduceLeDiff, Nat.reduceEqDiff, Nat.succ_ne_zero, reduceIte, came]
theorem iCame_spec (n ts : Int) : Ctr Tryz.prog 88 [.c (.v (.int .i64 n)), .c (.v (.int .i64 ts))] [.val (.c (.v (.bool (came n ts))))] := by
  refine Ctr.mk (fn := Tryz.f88) Tryz.call88 Tryz.func88 rfl mixed Tryz.ntmps88 Tryz.results88 (by kernel_rfl) rfl fun hw => ?_
  rcases h1 : decide (n ≥ 1) with _ | _ <;> simp only [go_sem, List.getElem?_toArray, Nat.reduceAdd, Nat.reduceSub, Nat.reduceMul, Nat.reduceLT, Nat.reduceLeDiff, Nat.reduceEqDiff, Nat.succ_ne_zero, reduceIte, h1] <;> simp only [came, h1, Bool.false_and, Bool.true_and]

/-- The buffer a reference names. -/
def bufAt (w : DWorld) (n : Int) : Option DBuf := if 0 ≤ n then w.b[n.toNat]? else none
def thereB (b : DBuf) (r : DRef) : Bool := (b.gen == r.gen) && ((b.kind == r.kind) && ((r.kind != 1) || ((b.c0.l.length : Int) == r.many)))
def there (w : DWorld) (r : DRef) : Bool := match bufAt w r.buf with
  | none => false
  | some b => thereB b r
theorem bufAt_cases (w : DWorld) (n : Int) : (∃ (k : Nat) (h : k < w.b.length), n = k ∧ bufAt w n = some w.b[k]) ∨ ((n < 0 ∨ (w.b.length : Int) ≤ n) ∧ bufAt w n = none) := by
  unfold bufAt
  by_cases h0 : 0 ≤ n
  · obtain ⟨k, rfl⟩ := Int.eq_ofNat_of_zero_le h0
    by_cases h1 : k < w.b.length
    · exact .inl ⟨k, h1, rfl, by simp [h1]⟩
    · refine .inr ⟨.inr (by omega), ?_⟩
      simp only [h0, if_true, Int.toNat_natCast]
      exact List.getElem?_eq_none (by omega)
  · exact .inr ⟨.inl (by omega), by simp [h0]⟩
theorem sThere_spec (w : DWorld) (r : DRef) : Ctr Tryz.prog 154 [.agg w.c, .agg r.c] [.val (.c (.v (.bool (there w r))))] := by
  refine Ctr.mk (fn := Tryz.f154) Tryz.call154 Tryz.func154 rfl mixed Tryz.ntmps154 Tryz.results154 (by kernel_rfl) rfl fun hw => ?_
  have hlenb : w.b.length ≤ 9223372036854775807 := by have := hw.1.2.2.2.2.2.2.2.2.1.1; simpa [Go.maxLen] using this
  simp only [go_sem, List.getElem?_toArray, Nat.reduceAdd, Nat.reduceSub, Nat.reduceMul, Nat.reduceLT, Nat.reduceLeDiff, Nat.reduceEqDiff, Nat.succ_ne_zero, reduceIte, List.length_map]
  try refine DrawK.mk ?_
  try simp only [go_sem, List.getElem?_toArray, Nat.reduceAdd, Nat.reduceSub, Nat.reduceMul, Nat.reduceLT, Nat.reduceLeDiff, Nat.reduceEqDiff, Nat.succ_ne_zero, reduceIte, List.length_map]
  first | refine CallF.mk _ (lIn_spec r.buf 0 _) ?_ | refine CallK.mk _ (lIn_spec r.buf 0 _) fun _ => ?_
  simp only [go_sem, List.getElem?_toArray, Nat.reduceAdd, Nat.reduceSub, Nat.reduceMul, Nat.reduceLT, Nat.reduceLeDiff, Nat.reduceEqDiff, Nat.succ_ne_zero, reduceIte, List.length_map]
  rw [wrap_i64 (n := (w.b.length : Int) - 1) (by omega) (by omega)]
  rcases bufAt_cases w r.buf with ⟨k, hk, hb, hat⟩ | ⟨hb, hat⟩
  · have e0 : decide ((k : Int) ≥ 0) = true := by simp
    have e1 : decide ((k : Int) ≤ (w.b.length : Int) - 1) = true := by simp; omega
    have hth : there w r = thereB w.b[k] r := by simp only [there, hat]
    rw [hth]
    rcases h1 : w.b[k].gen != r.gen with _ | _ <;> rcases h2 : w.b[k].kind != r.kind with _ | _ <;> rcases h3 : r.kind != 1 with _ | _ <;>
      simp only [go_sem, List.getElem?_toArray, Nat.reduceAdd, Nat.reduceSub, Nat.reduceMul, Nat.reduceLT, Nat.reduceLeDiff, Nat.reduceEqDiff, Nat.succ_ne_zero, reduceIte, List.length_map, hb, e0, e1, map_at _ hk, hk, h1, h2, h3] <;>
      simp only [bne_iff_ne, bne_eq_false_iff_eq, ne_eq, Bool.not_eq_true', beq_eq_false_iff_ne] at h1 h2 h3 <;>
      first | (simp [thereB, h1, h2, h3]; done) | (simp [thereB, h1, h2, h3]; intro hh; exact absurd (hh.trans h3.symm) h2)
  · have e1 : (decide (r.buf ≥ 0) && decide (r.buf ≤ (w.b.length : Int) - 1)) = false := by
      rw [Bool.and_eq_false_iff]
      by_cases h0 : 0 ≤ r.buf
      · right; simp; omega
      · left; simp; omega
    have hth : there w r = false := by simp only [there, hat]
    simp only [go_sem, List.getElem?_toArray, Nat.reduceAdd, Nat.reduceSub, Nat.reduceMul, Nat.reduceLT, Nat.reduceLeDiff, Nat.reduceEqDiff, Nat.succ_ne_zero, reduceIte, List.length_map, e1, hth]
theorem iThere_spec (w : DWorld) (r : DRef) : Ctr Tryz.prog 157 [.agg w.c, .agg r.c] [.val (.c (.v (.bool (there w r))))] := by
  refine Ctr.mk (fn := Tryz.f157) Tryz.call157 Tryz.func157 rfl mixed Tryz.ntmps157 Tryz.results157 (by kernel_rfl) rfl fun hw => ?_
  rcases bufAt_cases w r.buf with ⟨k, hk, hb, hat⟩ | ⟨hb, hat⟩
  · have e1 : decide (r.buf < 0) = false := by rw [hb]; simp
    have e2 : decide ((k : Int) ≥ w.b.length) = false := by simp; omega
    have e3 : decide ((k : Int) < 0) = false := by simp
    have hth : there w r = thereB w.b[k] r := by simp only [there, hat]
    rw [hth]
    rcases h1 : w.b[k].gen == r.gen with _ | _ <;> rcases h2 : w.b[k].kind == r.kind with _ | _ <;> rcases h3 : r.kind != 1 with _ | _ <;>
      simp only [go_sem, List.getElem?_toArray, Nat.reduceAdd, Nat.reduceSub, Nat.reduceMul, Nat.reduceLT, Nat.reduceLeDiff, Nat.reduceEqDiff, Nat.succ_ne_zero, reduceIte, List.length_map, hb, e2, e3, map_at _ hk, hk, h1, h2, h3] <;>
      simp only [thereB, h1, h2, h3, Bool.true_and, Bool.false_and, Bool.true_or, Bool.false_or]
  · have hth : there w r = false := by simp only [there, hat]
    rcases h0 : decide (r.buf < 0) with _ | _
    · have e2 : decide (r.buf ≥ (w.b.length : Int)) = true := by simp at h0 ⊢; omega
      simp only [go_sem, List.getElem?_toArray, Nat.reduceAdd, Nat.reduceSub, Nat.reduceMul, Nat.reduceLT, Nat.reduceLeDiff, Nat.reduceEqDiff, Nat.succ_ne_zero, reduceIte, List.length_map, h0, e2, hth]
    · simp only [go_sem, List.getElem?_toArray, Nat.reduceAdd, Nat.reduceSub, Nat.reduceMul, Nat.reduceLT, Nat.reduceLeDiff, Nat.reduceEqDiff, Nat.succ_ne_zero, reduceIte, List.length_map, h0, hth]

def noChunk : DChunk := ⟨0, []⟩
def chunkAt (w : DWorld) (r : DRef) : DChunk × Bool := match bufAt w r.buf with
  | none => (noChunk, false)
  | some b => if (r.kind == 1 && thereB b r) = true then (b.c0, true) else (noChunk, false)
theorem iChunkOf_spec (w : DWorld) (r : DRef) : Ctr Tryz.prog 106 [.agg w.c, .agg r.c] [.val (.agg (chunkAt w r).1.c), .val (.c (.v (.bool (chunkAt w r).2)))] := by
  refine Ctr.mk (fn := Tryz.f106) Tryz.call106 Tryz.func106 rfl mixed Tryz.ntmps106 Tryz.results106 (by kernel_rfl) rfl fun hw => ?_
  rcases h1 : r.kind != 1 with _ | _
  · have hk1 : (r.kind == 1) = true := by simpa using h1
    simp only [go_sem, List.getElem?_toArray, Nat.reduceAdd, Nat.reduceSub, Nat.reduceMul, Nat.reduceLT, Nat.reduceLeDiff, Nat.reduceEqDiff, Nat.succ_ne_zero, reduceIte, h1]
    try refine DrawK.mk ?_
    try simp only [go_sem, List.getElem?_toArray, Nat.reduceAdd, Nat.reduceSub, Nat.reduceMul, Nat.reduceLT, Nat.reduceLeDiff, Nat.reduceEqDiff, Nat.succ_ne_zero, reduceIte, h1]
    first | refine CallF.mk _ (by simpa only [go_sem] using iThere_spec w r) ?_ | refine CallK.mk _ (by simpa only [go_sem] using iThere_spec w r) fun _ => ?_
    rcases h2 : there w r with _ | _
    · have hc : chunkAt w r = (noChunk, false) := by
        unfold chunkAt
        unfold there at h2
        split
        · rfl
        · rename_i b hb
          simp only [hb] at h2
          simp [h2]
      simp only [go_sem, List.getElem?_toArray, Nat.reduceAdd, Nat.reduceSub, Nat.reduceMul, Nat.reduceLT, Nat.reduceLeDiff, Nat.reduceEqDiff, Nat.succ_ne_zero, reduceIte, h1, h2, hc, noChunk, List.map_nil]
    · obtain ⟨k, hk, hb, hat⟩ | ⟨hb, hat⟩ := bufAt_cases w r.buf
      · have hc : chunkAt w r = (w.b[k].c0, true) := by
          unfold chunkAt
          simp only [there, hat] at h2
          simp [hat, h2, hk1]
        simp only [go_sem, List.getElem?_toArray, Nat.reduceAdd, Nat.reduceSub, Nat.reduceMul, Nat.reduceLT, Nat.reduceLeDiff, Nat.reduceEqDiff, Nat.succ_ne_zero, reduceIte, h1, h2, hb, map_at _ hk, hk, hc]
      · simp only [there, hat] at h2
        cases h2
  · have hk1 : (r.kind == 1) = false := by simpa using h1
    have hc : chunkAt w r = (noChunk, false) := by
      unfold chunkAt
      split
      · rfl
      · simp [hk1]
    simp only [go_sem, List.getElem?_toArray, Nat.reduceAdd, Nat.reduceSub, Nat.reduceMul, Nat.reduceLT, Nat.reduceLeDiff, Nat.reduceEqDiff, Nat.succ_ne_zero, reduceIte, h1, hc, noChunk, List.map_nil]
    try refine DrawK.mk ?_
    try simp only [go_sem, List.getElem?_toArray, Nat.reduceAdd, Nat.reduceSub, Nat.reduceMul, Nat.reduceLT, Nat.reduceLeDiff, Nat.reduceEqDiff, Nat.succ_ne_zero, reduceIte, h1, hc, noChunk, List.map_nil]

/-! ### The rows of a chunk -/
def rowsUpto (c : DChunk) (first ts : Int) : Nat → List DRow
  | 0 => []
  | k + 1 => match c.l[k]? with
    | some x => if came x.ins ts = true then rowsUpto c first ts k ++ [⟨IntKind.i64.wrap (first + k), x.l⟩] else rowsUpto c first ts k
    | none => rowsUpto c first ts k
def rowsOf (c : DChunk) (first ts : Int) : List DRow := rowsUpto c first ts c.l.length
def camesUpto (c : DChunk) (ts : Int) : Nat → Nat
  | 0 => 0
  | k + 1 => match c.l[k]? with
    | some x => if came x.ins ts = true then camesUpto c ts k + 1 else camesUpto c ts k
    | none => camesUpto c ts k
theorem rowsUpto_len (c : DChunk) (first ts : Int) : ∀ k, (rowsUpto c first ts k).length = camesUpto c ts k
  | 0 => rfl
  | k + 1 => by
    simp only [rowsUpto, camesUpto]
    split
    · split
      · simp [rowsUpto_len c first ts k]
      · exact rowsUpto_len c first ts k
    · exact rowsUpto_len c first ts k
theorem camesUpto_le (c : DChunk) (ts : Int) : ∀ k, camesUpto c ts k ≤ k
  | 0 => Nat.le_refl _
  | k + 1 => by
    have := camesUpto_le c ts k
    simp only [camesUpto]
    split
    · split <;> omega
    · omega
theorem rowsUpto_yes {c : DChunk} {first ts : Int} {k : Nat} (hk : k < c.l.length) (h : came c.l[k].ins ts = true) : rowsUpto c first ts (k + 1) = rowsUpto c first ts k ++ [⟨IntKind.i64.wrap (first + k), c.l[k].l⟩] := by
  simp [rowsUpto, hk, h]
theorem rowsUpto_no {c : DChunk} {first ts : Int} {k : Nat} (hk : k < c.l.length) (h : came c.l[k].ins ts = false) : rowsUpto c first ts (k + 1) = rowsUpto c first ts k := by
  simp [rowsUpto, hk, h]
theorem camesUpto_yes {c : DChunk} {ts : Int} {k : Nat} (hk : k < c.l.length) (h : came c.l[k].ins ts = true) : camesUpto c ts (k + 1) = camesUpto c ts k + 1 := by
  simp [camesUpto, hk, h]
theorem camesUpto_no {c : DChunk} {ts : Int} {k : Nat} (hk : k < c.l.length) (h : came c.l[k].ins ts = false) : camesUpto c ts (k + 1) = camesUpto c ts k := by
  simp [camesUpto, hk, h]
theorem sRowsOf_spec (c : DChunk) (first ts : Int) (hf : fitChunk c) : Ctr Tryz.prog 155 [.agg c.c, .c (.v (.int .i64 first)), .c (.v (.int .i64 ts))] [.val (.c (.sl ((rowsOf c first ts).map DRow.c)))] := by
  refine Ctr.mk (fn := Tryz.f155) Tryz.call155 Tryz.func155 rfl mixed Tryz.ntmps155 Tryz.results155 (by kernel_rfl) rfl fun hw => ?_
  rw [fitChunk_eq] at hf
  have hlen := hf.1
  simp only [go_sem, List.getElem?_toArray, Nat.reduceAdd, Nat.reduceSub, Nat.reduceMul, Nat.reduceLT, Nat.reduceLeDiff, Nat.reduceEqDiff, Nat.succ_ne_zero, reduceIte, List.length_map, Option.getD_some]
  refine LoopR.mk [1, 2, 3, 7, 8] (A := Nat) (fun k => ⟨41, [(1, .c (.v (.int .i64 first))), (2, .c (.v (.int .i64 ts))), (3, .lp 0 0 0), (7, .c (.ref 1)), (8, .c (.v (.int .i64 k)))], [⟨167, 2, [c.c], true, true⟩, ⟨118, 2, (rowsUpto c first ts k).map DRow.c, true, true⟩]⟩) (fun k => k ≤ c.l.length) (fun k => c.l.length - k) 0 [(0, false), (1, false)] ⟨⟨rfl, rfl, rfl, rfl, trivial⟩, rfl⟩ (Nat.zero_le _) ?_
  intro k hk
  simp only [go_sem, List.getElem?_toArray, Nat.reduceAdd, Nat.reduceSub, Nat.reduceMul, Nat.reduceLT, Nat.reduceLeDiff, Nat.reduceEqDiff, Nat.succ_ne_zero, reduceIte, List.length_map, Option.getD_some]
  refine cndC.mk (fun h => ?_) (fun h => ?_)
  · have hk' : k < c.l.length := by simpa using h
    have hs := hf.2 _ (List.getElem_mem hk')
    rw [fitSlot_eq] at hs
    have hsl := hs.1
    have hle := camesUpto_le c ts k
    rw [← rowsUpto_len c first ts k] at hle
    simp only [go_sem, List.getElem?_toArray, Nat.reduceAdd, Nat.reduceSub, Nat.reduceMul, Nat.reduceLT, Nat.reduceLeDiff, Nat.reduceEqDiff, Nat.succ_ne_zero, reduceIte, List.length_map, Option.getD_some, map_at _ hk', hk']
    try refine DrawK.mk ?_
    try simp only [go_sem, List.getElem?_toArray, Nat.reduceAdd, Nat.reduceSub, Nat.reduceMul, Nat.reduceLT, Nat.reduceLeDiff, Nat.reduceEqDiff, Nat.succ_ne_zero, reduceIte, List.length_map, map_at _ hk', hk']
    first | refine CallF.mk _ (sCame_spec c.l[k].ins ts) ?_ | refine CallK.mk _ (sCame_spec c.l[k].ins ts) fun _ => ?_
    rcases hc : came c.l[k].ins ts with _ | _
    · simp only [go_sem, List.getElem?_toArray, Nat.reduceAdd, Nat.reduceSub, Nat.reduceMul, Nat.reduceLT, Nat.reduceLeDiff, Nat.reduceEqDiff, Nat.succ_ne_zero, reduceIte, List.length_map, Option.getD_some, map_at _ hk', hk', hc, wrap_i64 (n := (k : Int) + 1) (by omega) (by omega)]
      exact ⟨k + 1, ⟨[(0, false), (1, false)], ⟨rfl, rfl, rfl, pureE_map DRow.pure, trivial⟩, by rw [rowsUpto_no hk' hc]; rfl⟩, by omega, by omega⟩
    · have hp : pureE (c.l[k].l.map DVal.c) = true := pureE_map DVal.pure
      have hq : ∀ (a : Int) (l : Nat), pureE [[Cl.v (.int .i64 a), .ref l]] = false := fun _ _ => rfl
      have hall : (List.map DVal.c c.l[k].l).all (fun r => r.length == 3) = true := by simp [List.all_map, DVal.c_eq]
      have hsl2 : c.l[k].l.length ≤ 2147483648 := by omega
      have hrl : (rowsUpto c first ts k).length + 1 ≤ 2147483648 := by omega
      simp only [go_sem, List.getElem?_toArray, Nat.reduceAdd, Nat.reduceSub, Nat.reduceMul, Nat.reduceLT, Nat.reduceLeDiff, Nat.reduceEqDiff, Nat.succ_ne_zero, reduceIte, List.length_map, Option.getD_some, map_at _ hk', hk', hc, fzE, fzE', hp, hq, hall, hsl2, hrl, List.all_cons, List.all_nil, Nat.reduceBEq, Bool.and_self, wrap_i64 (n := (k : Int) + 1) (by omega) (by omega)]
      exact ⟨k + 1, ⟨[(0, false), (5, false)], ⟨rfl, rfl, rfl, (by rw [show List.map DRow.c (rowsUpto c first ts k) ++ [[Cl.v (.int .i64 (IntKind.i64.wrap (first + k))), .sl (c.l[k].l.map DVal.c)]] = (rowsUpto c first ts (k + 1)).map DRow.c by rw [rowsUpto_yes hk' hc, List.map_append]; rfl]; exact pureE_map DRow.pure), trivial⟩, by rw [rowsUpto_yes hk' hc, List.map_append]; rfl⟩, by omega, by omega⟩
  · have hk' : k = c.l.length := by simp at h; omega
    subst hk'
    simp only [go_sem, List.getElem?_toArray, Nat.reduceAdd, Nat.reduceSub, Nat.reduceMul, Nat.reduceLT, Nat.reduceLeDiff, Nat.reduceEqDiff, Nat.succ_ne_zero, reduceIte, List.length_map, pureE_map DRow.pure]
    try rfl
end Go.Proofs.YteiibjajcbiaoaaGreat
