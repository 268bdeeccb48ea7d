/- Walks: RowsIn at a chunk, Unpacked. -/
import Derived.Test.YteiibjajcbiaoaaGreatUa
namespace Go.Proofs.YteiibjajcbiaoaaGreat
set_option linter.unusedSimpArgs false
set_option linter.unusedVariables false
open Go.Vm
set_option maxHeartbeats 2000000
set_option maxRecDepth 10000

def rowsInC (w : DWorld) (r : DRef) (ts : Int) : List DRow := match bufAt w r.buf with
  | none => []
  | some b => if thereB b r = true then rowsOf b.c0 r.first ts else []
theorem fitBufs {w : DWorld} (hf : fitWorld w) {k : Nat} (hk : k < w.b.length) : fitChunk w.b[k].c0 := by
  rw [fitWorld_eq] at hf
  have := hf.2.2.1.2 _ (List.getElem_mem hk)
  rw [fitBuf_eq] at this
  exact this.1
theorem sRowsInC_spec (w : DWorld) (r : DRef) (ts : Int) (hf : fitWorld w) (hk1 : (r.kind == 1) = true) : Ctr Tryz.prog 105 [.agg w.c, .agg r.c, .c (.v (.int .i64 ts))] [.val (.c (.sl ((rowsInC w r ts).map DRow.c)))] := by
  refine Ctr.mk (fn := Tryz.f105) Tryz.call105 Tryz.func105 rfl mixed Tryz.ntmps105 Tryz.results105 (by kernel_rfl) rfl fun hw => ?_
  simp only [go_sem, List.getElem?_toArray, Nat.reduceAdd, Nat.reduceSub, Nat.reduceMul, Nat.reduceLT, Nat.reduceLeDiff, Nat.reduceEqDiff, Nat.succ_ne_zero, reduceIte]
  refine CallK.mk _ (by simpa only [go_sem] using sThere_spec w r) fun _ => ?_
  have hnil : pureE ([] : List (List Cl)) = true := rfl
  rcases bufAt_cases w r.buf with ⟨k, hk, hb, hat⟩ | ⟨hb, hat⟩
  · rcases h2 : there w r with _ | _
    · have hr : rowsInC w r ts = [] := by
        simp only [there, hat] at h2
        simp [rowsInC, hat, h2]
      simp only [go_sem, List.getElem?_toArray, Nat.reduceAdd, Nat.reduceSub, Nat.reduceMul, Nat.reduceLT, Nat.reduceLeDiff, Nat.reduceEqDiff, Nat.succ_ne_zero, reduceIte, h2, hr, List.map_nil, Option.getD_some, hnil]
    · have hr : rowsInC w r ts = rowsOf w.b[k].c0 r.first ts := by
        simp only [there, hat] at h2
        simp [rowsInC, hat, h2]
      simp only [go_sem, List.getElem?_toArray, Nat.reduceAdd, Nat.reduceSub, Nat.reduceMul, Nat.reduceLT, Nat.reduceLeDiff, Nat.reduceEqDiff, Nat.succ_ne_zero, reduceIte, h2, hr, hk1]
      try refine DrawK.mk ?_
      try simp only [go_sem, List.getElem?_toArray, Nat.reduceAdd, Nat.reduceSub, Nat.reduceMul, Nat.reduceLT, Nat.reduceLeDiff, Nat.reduceEqDiff, Nat.succ_ne_zero, reduceIte, hb, map_at _ hk, hk]
      first | refine CallF.mk _ (by simpa only [go_sem] using sRowsOf_spec w.b[k].c0 r.first ts (fitBufs hf hk)) ?_ | refine CallK.mk _ (by simpa only [go_sem] using sRowsOf_spec w.b[k].c0 r.first ts (fitBufs hf hk)) fun _ => ?_
      simp only [go_sem, List.getElem?_toArray, Nat.reduceAdd, Nat.reduceSub, Nat.reduceMul, Nat.reduceLT, Nat.reduceLeDiff, Nat.reduceEqDiff, Nat.succ_ne_zero, reduceIte]
  · have h2 : there w r = false := by simp only [there, hat]
    have hr : rowsInC w r ts = [] := by simp only [rowsInC, hat]
    simp only [go_sem, List.getElem?_toArray, Nat.reduceAdd, Nat.reduceSub, Nat.reduceMul, Nat.reduceLT, Nat.reduceLeDiff, Nat.reduceEqDiff, Nat.succ_ne_zero, reduceIte, h2, hr, List.map_nil, Option.getD_some, hnil]

/-- How many rows of a reference's chunk have come. -/
def cnt (w : DWorld) (r : DRef) : Nat := camesUpto (chunkAt w r).1 w.t (chunkAt w r).1.l.length
theorem cnt_rows (w : DWorld) (r : DRef) (hk1 : (r.kind == 1) = true) : (rowsInC w r w.t).length = cnt w r := by
  unfold rowsInC cnt chunkAt
  cases bufAt w r.buf with
  | none => rfl
  | some b =>
    simp only [hk1, Bool.true_and]
    by_cases h : thereB b r = true
    · simp only [h, if_true, rowsOf, rowsUpto_len]
    · simp only [h, if_false]; rfl
theorem cnt_no (w : DWorld) (r : DRef) (hk1 : (r.kind == 1) = false) : cnt w r = 0 := by
  unfold cnt chunkAt
  cases bufAt w r.buf with
  | none => rfl
  | some b => simp only [hk1, Bool.false_and, Bool.false_eq_true, if_false]; rfl
theorem chunkAt_len (w : DWorld) (r : DRef) (hf : fitWorld w) : (chunkAt w r).1.l.length ≤ 1048576 := by
  unfold chunkAt
  rcases bufAt_cases w r.buf with ⟨k, hk, hb, hat⟩ | ⟨hb, hat⟩
  · simp only [hat]
    split
    · have := fitBufs hf hk
      rw [fitChunk_eq] at this
      exact this.1
    · simp [noChunk]
  · simp [hat, noChunk]
theorem cnt_le (w : DWorld) (r : DRef) (hf : fitWorld w) : cnt w r ≤ 1048576 :=
  Nat.le_trans (camesUpto_le _ _ _) (chunkAt_len w r hf)
def tot (w : DWorld) : Nat → Nat
  | 0 => 0
  | k + 1 => match w.d.l[k]? with
    | some r => tot w k + cnt w r
    | none => tot w k
theorem tot_succ (w : DWorld) {k : Nat} (hk : k < w.d.l.length) : tot w (k + 1) = tot w k + cnt w w.d.l[k] := by
  simp [tot, hk]
theorem tot_le (w : DWorld) (hf : fitWorld w) : ∀ k, tot w k ≤ k * 1048576
  | 0 => Nat.le_refl _
  | k + 1 => by
    rw [Nat.succ_mul]
    simp only [tot]
    split
    · rename_i r _
      exact Nat.add_le_add (tot_le w hf k) (cnt_le w r hf)
    · exact Nat.le_trans (tot_le w hf k) (Nat.le_add_right _ _)
def unpacked (w : DWorld) : Int := tot w w.d.l.length
theorem fitRefs {w : DWorld} (hf : fitWorld w) : w.d.l.length ≤ 1048576 := by
  rw [fitWorld_eq] at hf
  have := hf.2.1
  simpa [fitDir] using this
theorem sUnpacked_spec (w : DWorld) (hf : fitWorld w) : Ctr Tryz.prog 36 [.agg w.c] [.val (.c (.v (.int .i64 (unpacked w))))] := by
  refine Ctr.mk (fn := Tryz.f36) Tryz.call36 Tryz.func36 rfl mixed Tryz.ntmps36 Tryz.results36 (by kernel_rfl) rfl fun hw => ?_
  have hlen := fitRefs hf
  simp only [go_sem, List.getElem?_toArray, Nat.reduceAdd, Nat.reduceSub, Nat.reduceMul, Nat.reduceLT, Nat.reduceLeDiff, Nat.reduceEqDiff, Nat.succ_ne_zero, reduceIte, List.length_map]
  refine LoopK.mk 1 [1, 3, 4] (A := Nat) (fun k => ⟨35, [(1, .lp 0 0 0), (3, .c (.v (.int .i64 (tot w k)))), (4, .c (.v (.int .i64 k)))], [⟨86, 14, [w.c], true, true⟩]⟩) (fun k => k ≤ w.d.l.length) (fun k => w.d.l.length - k) 0 ⟨⟨rfl, rfl⟩, rfl, Nat.zero_le _⟩ ?_
  intro k hk
  simp only [go_sem, List.getElem?_toArray, Nat.reduceAdd, Nat.reduceSub, Nat.reduceMul, Nat.reduceLT, Nat.reduceLeDiff, Nat.reduceEqDiff, Nat.succ_ne_zero, reduceIte, List.length_map]
  refine cndC.mk (fun h => ?_) (fun h => ?_)
  · have hk' : k < w.d.l.length := by simpa using h
    have ht := tot_succ w hk'
    have hl := tot_le w hf (k + 1)
    have hl2 : (k + 1) * 1048576 ≤ 1048576 * 1048576 := Nat.mul_le_mul_right _ (by omega)
    rcases hc : w.d.l[k].kind == 1 with _ | _
    · have h0 := cnt_no w _ hc
      simp only [go_sem, List.getElem?_toArray, Nat.reduceAdd, Nat.reduceSub, Nat.reduceMul, Nat.reduceLT, Nat.reduceLeDiff, Nat.reduceEqDiff, Nat.succ_ne_zero, reduceIte, List.length_map, map_at _ hk', hk', hc, wrap_i64 (n := (k : Int) + 1) (by omega) (by omega)]
      exact ⟨k + 1, ⟨rfl, rfl⟩, by rw [ht, h0]; rfl, by omega, by omega⟩
    · have h1 := cnt_rows w _ hc
      simp only [go_sem, List.getElem?_toArray, Nat.reduceAdd, Nat.reduceSub, Nat.reduceMul, Nat.reduceLT, Nat.reduceLeDiff, Nat.reduceEqDiff, Nat.succ_ne_zero, reduceIte, List.length_map, map_at _ hk', hk', hc]
      try refine DrawK.mk ?_
      try simp only [go_sem, List.getElem?_toArray, Nat.reduceAdd, Nat.reduceSub, Nat.reduceMul, Nat.reduceLT, Nat.reduceLeDiff, Nat.reduceEqDiff, Nat.succ_ne_zero, reduceIte, List.length_map, map_at _ hk', hk', hc]
      first | refine CallF.mk _ (by simpa only [go_sem] using sRowsInC_spec w w.d.l[k] w.t hf hc) ?_ | refine CallK.mk _ (by simpa only [go_sem] using sRowsInC_spec w w.d.l[k] w.t hf hc) fun _ => ?_
      simp only [go_sem, List.getElem?_toArray, Nat.reduceAdd, Nat.reduceSub, Nat.reduceMul, Nat.reduceLT, Nat.reduceLeDiff, Nat.reduceEqDiff, Nat.succ_ne_zero, reduceIte, List.length_map, h1, wrap_i64 (n := (k : Int) + 1) (by omega) (by omega), wrap_i64 (n := (tot w k : Int) + (cnt w w.d.l[k] : Int)) (by omega) (by omega)]
      exact ⟨k + 1, ⟨rfl, rfl⟩, by rw [ht]; rfl, by omega, by omega⟩
  · have hk' : k = w.d.l.length := by simp at h; omega
    subst hk'
    simp only [go_sem, List.getElem?_toArray, Nat.reduceAdd, Nat.reduceSub, Nat.reduceMul, Nat.reduceLT, Nat.reduceLeDiff, Nat.reduceEqDiff, Nat.succ_ne_zero, reduceIte, unpacked]
    try rfl
theorem iUnpacked_spec (w : DWorld) (hf : fitWorld w) : Ctr Tryz.prog 37 [.agg w.c] [.val (.c (.v (.int .i64 (unpacked w))))] := by
  refine Ctr.mk (fn := Tryz.f37) Tryz.call37 Tryz.func37 rfl mixed Tryz.ntmps37 Tryz.results37 (by kernel_rfl) rfl fun hw => ?_
  have hlen := fitRefs hf
  simp only [go_sem, List.getElem?_toArray, Nat.reduceAdd, Nat.reduceSub, Nat.reduceMul, Nat.reduceLT, Nat.reduceLeDiff, Nat.reduceEqDiff, Nat.succ_ne_zero, reduceIte, List.length_map]
  refine LoopK.mk 1 [1, 3, 12, 13, 14] (A := Nat) (fun k => ⟨41, [(1, .lp 0 0 0), (3, .c (.v (.int .i64 (tot w k)))), (12, .c (.sl (w.d.l.map DRef.c))), (13, .c (.v (.int .i64 w.d.l.length))), (14, .c (.v (.int .i64 k)))], [⟨86, 14, [w.c], true, true⟩]⟩) (fun k => k ≤ w.d.l.length) (fun k => w.d.l.length - k) 0 ⟨⟨rfl, rfl⟩, rfl, Nat.zero_le _⟩ ?_
  intro k hk
  simp only [go_sem, List.getElem?_toArray, Nat.reduceAdd, Nat.reduceSub, Nat.reduceMul, Nat.reduceLT, Nat.reduceLeDiff, Nat.reduceEqDiff, Nat.succ_ne_zero, reduceIte, List.length_map]
  refine cndC.mk (fun h => ?_) (fun h => ?_)
  · have hk' : k < w.d.l.length := by simpa using h
    have ht := tot_succ w hk'
    have hl := tot_le w hf (k + 1)
    have hl2 : (k + 1) * 1048576 ≤ 1048576 * 1048576 := Nat.mul_le_mul_right _ (by omega)
    have hcl := chunkAt_len w w.d.l[k] hf
    simp only [go_sem, List.getElem?_toArray, Nat.reduceAdd, Nat.reduceSub, Nat.reduceMul, Nat.reduceLT, Nat.reduceLeDiff, Nat.reduceEqDiff, Nat.succ_ne_zero, reduceIte, List.length_map, map_at _ hk', hk']
    refine CallK.mk _ (by simpa only [go_sem] using iChunkOf_spec w w.d.l[k]) fun _ => ?_
    simp only [go_sem, List.getElem?_toArray, Nat.reduceAdd, Nat.reduceSub, Nat.reduceMul, Nat.reduceLT, Nat.reduceLeDiff, Nat.reduceEqDiff, Nat.succ_ne_zero, reduceIte, List.length_map]
    unfold cnt at ht
    generalize (chunkAt w w.d.l[k]).1 = c at ht hcl ⊢
    generalize (chunkAt w w.d.l[k]).2 = ok
    refine LoopK.mk 1 [1, 3, 12, 13, 14, 25, 26, 27] (A := Nat) (fun i => ⟨41, [(1, .lp 0 0 0), (3, .c (.v (.int .i64 ((tot w k + camesUpto c w.t i : Nat) : Int)))), (12, .c (.sl (w.d.l.map DRef.c))), (13, .c (.v (.int .i64 w.d.l.length))), (14, .c (.v (.int .i64 k))), (25, .c (.sl (c.l.map DSlot.c))), (26, .c (.v (.int .i64 c.l.length))), (27, .c (.v (.int .i64 i)))], [⟨86, 14, [w.c], true, true⟩]⟩) (fun i => i ≤ c.l.length) (fun i => c.l.length - i) 0 ⟨⟨rfl, rfl⟩, rfl, Nat.zero_le _⟩ ?_
    intro i hi
    have hci := camesUpto_le c w.t i
    have htk := tot_le w hf k
    simp only [go_sem, List.getElem?_toArray, Nat.reduceAdd, Nat.reduceSub, Nat.reduceMul, Nat.reduceLT, Nat.reduceLeDiff, Nat.reduceEqDiff, Nat.succ_ne_zero, reduceIte, List.length_map]
    refine cndC.mk (fun h => ?_) (fun h => ?_)
    · have hi' : i < c.l.length := by simpa using h
      simp only [go_sem, List.getElem?_toArray, Nat.reduceAdd, Nat.reduceSub, Nat.reduceMul, Nat.reduceLT, Nat.reduceLeDiff, Nat.reduceEqDiff, Nat.succ_ne_zero, reduceIte, List.length_map, map_at _ hi', hi']
      try refine DrawK.mk ?_
      try simp only [go_sem, List.getElem?_toArray, Nat.reduceAdd, Nat.reduceSub, Nat.reduceMul, Nat.reduceLT, Nat.reduceLeDiff, Nat.reduceEqDiff, Nat.succ_ne_zero, reduceIte, List.length_map, map_at _ hi', hi']
      first | refine CallF.mk _ (iCame_spec c.l[i].ins w.t) ?_ | refine CallK.mk _ (iCame_spec c.l[i].ins w.t) fun _ => ?_
      rcases hc : came c.l[i].ins w.t with _ | _
      · have hno := camesUpto_no hi' hc
        simp only [go_sem, List.getElem?_toArray, Nat.reduceAdd, Nat.reduceSub, Nat.reduceMul, Nat.reduceLT, Nat.reduceLeDiff, Nat.reduceEqDiff, Nat.succ_ne_zero, reduceIte, List.length_map, map_at _ hi', hi', hc, wrap_i64 (n := (i : Int) + 1) (by omega) (by omega)]
        exact ⟨i + 1, ⟨rfl, rfl⟩, by rw [hno]; rfl, by omega, by omega⟩
      · have hyes := camesUpto_yes hi' hc
        have hw1 := wrap_i64 (n := ((tot w k + camesUpto c w.t i : Nat) : Int) + 1) (by omega) (by omega)
        simp only [go_sem, List.getElem?_toArray, Nat.reduceAdd, Nat.reduceSub, Nat.reduceMul, Nat.reduceLT, Nat.reduceLeDiff, Nat.reduceEqDiff, Nat.succ_ne_zero, reduceIte, List.length_map, map_at _ hi', hi', hc, wrap_i64 (n := (i : Int) + 1) (by omega) (by omega), hw1]
        exact ⟨i + 1, ⟨rfl, rfl⟩, by rw [hyes]; rfl, by omega, by omega⟩
    · have hi' : i = c.l.length := by simp at h; omega
      subst hi'
      simp only [go_sem, List.getElem?_toArray, Nat.reduceAdd, Nat.reduceSub, Nat.reduceMul, Nat.reduceLT, Nat.reduceLeDiff, Nat.reduceEqDiff, Nat.succ_ne_zero, reduceIte, List.length_map, wrap_i64 (n := (k : Int) + 1) (by omega) (by omega)]
      exact ⟨k + 1, ⟨rfl, rfl⟩, by rw [ht]; rfl, by omega, by omega⟩
  · have hk' : k = w.d.l.length := by simp at h; omega
    subst hk'
    simp only [go_sem, List.getElem?_toArray, Nat.reduceAdd, Nat.reduceSub, Nat.reduceMul, Nat.reduceLT, Nat.reduceLeDiff, Nat.reduceEqDiff, Nat.succ_ne_zero, reduceIte, unpacked]
    try rfl
end Go.Proofs.YteiibjajcbiaoaaGreat
