/- Walks: what is to be packed. -/
import Derived.Test.YthoeeoddgkjkkaaGreatXa
namespace Go.Proofs.YthoeeoddgkjkkaaGreat
set_option linter.unusedSimpArgs false
set_option linter.unusedVariables false
open Go.Vm
set_option maxHeartbeats 2000000
set_option maxRecDepth 10000
@[go_sem] theorem binds_txt {n : Nat} {d : Departure} : Region.binds .any ⟨n, .textOnly d⟩ = false := rfl
@[go_sem] theorem binds_gc {n : Nat} {d : Departure} : Region.binds .any ⟨n, .gcOnly d⟩ = false := rfl
theorem find_hit {p : Nat → Bool} {n k : Nat} (hk : k < n) (h : p k = true) (hb : ∀ i, i < k → p i = false) : (List.range n).find? p = some k := by
 rw [List.find?_range_eq_some]
 exact ⟨h, List.mem_range.2 hk, fun j hj => by simp [hb j hj]⟩
theorem find_miss {p : Nat → Bool} {n : Nat} (hb : ∀ i, i < n → p i = false) : (List.range n).find? p = none := by
 rw [List.find?_eq_none]
 intro x hx
 simp [hb x (List.mem_range.1 hx)]
def refAt (w : DWorld) (i : Nat) : DRef := (w.d.l[i]?).getD ⟨0, 0, 0, 0, 0⟩
theorem refAt_eq {w : DWorld} {i : Nat} (h : i < w.d.l.length) : refAt w i = w.d.l[i] := by simp [refAt, h]
def pw1 (w : DWorld) (i : Nat) : Bool := (chunkAt w (refAt w i)).2 && wholeC (chunkAt w (refAt w i)).1 w.t
noncomputable def nAt (w : DWorld) (r : DRef) : Int := if (r.kind == 2 && there w r) = true then ((grpAt w r).length : Int) else -1
noncomputable def pw2 (w : DWorld) (i : Nat) : Bool := decide (i + 1 < w.d.l.length) && (decide (nAt w (refAt w i) ≥ 0) && (decide (nAt w (refAt w (i + 1)) ≥ 0) && decide (nAt w (refAt w i) + nAt w (refAt w (i + 1)) ≤ 12)))
noncomputable def packWhat (w : DWorld) : Int × Int := match (List.range w.d.l.length).find? (pw1 w) with
 | some i => (i, 1)
 | none => match (List.range w.d.l.length).find? (pw2 w) with
  | some i => (i, 2)
  | none => (-1, 0)
theorem fitRefs {w : DWorld} (hf : fitWorld w) : w.d.l.length ≤ 1048576 := by
 rw [fitWorld_eq] at hf
 have := hf.2.1
 rw [fitDir_eq] at this
 exact this
theorem chunk_len (w : DWorld) (r : DRef) (hf : fitWorld w) : (chunkAt w r).1.l.length ≤ 1048576 := by
 unfold chunkAt
 rcases bufAt_cases w r.buf with ⟨k, hk, hb, hat⟩ | ⟨hb, hat⟩
 ·rw [hat]
  have := (fitBufs hf hk).1
  rw [fitChunk_eq] at this
  dsimp only
  split
  ·exact this.1
  ·simp [noChunk]
 ·rw [hat]; simp [noChunk]
theorem getGroup_ok {cs b : List Int} {l : List DRow} (h : getGroup cs b = some l) : grpOk cs l = true := by
 unfold getGroup at h
 split at h
 ·cases h
 ·split at h
  ·split at h
   ·cases h
   ·split at h
    ·rename_i h2
     cases h
     exact h2.2
    ·cases h
  ·cases h
theorem grp_len (w : DWorld) (r : DRef) : (grpAt w r).length ≤ 12 := by
 unfold grpAt
 split
 ·simp
 ·rename_i b hb
  rcases h : getGroup w.c0.cols b.g with _ | l
  ·simp
  ·simp only [Option.getD_some]
   exact (grp_facts (getGroup_ok h)).2.1
theorem pack_one {w : DWorld} {k : Nat} (hk : k < w.d.l.length) (h : pw1 w k = true) (hb : ∀ i, i < k → pw1 w i = false) : packWhat w = ((k : Int), 1) := by
 unfold packWhat
 rw [find_hit hk h hb]
theorem pack_two {w : DWorld} {k : Nat} (h0 : ∀ i, i < w.d.l.length → pw1 w i = false) (hk : k < w.d.l.length) (h : pw2 w k = true) (hb : ∀ i, i < k → pw2 w i = false) : packWhat w = ((k : Int), 2) := by
 unfold packWhat
 rw [find_miss h0, find_hit hk h hb]
theorem pack_none {w : DWorld} (h0 : ∀ i, i < w.d.l.length → pw1 w i = false) (hb : ∀ i, i < w.d.l.length → pw2 w i = false) : packWhat w = (-1, 0) := by
 unfold packWhat
 rw [find_miss h0, find_miss hb]
theorem iPackWhat_spec (w : DWorld) (hf : fitWorld w) : Ctr Tryz.prog 12 [.agg w.c] [.val (.c (.v (.int .i64 ((packWhat w).1)))), .val (.c (.v (.int .i64 ((packWhat w).2))))] := by
 refine Ctr.mk Tryz.call12 Tryz.func12 rfl mixed Tryz.ntmps12 Tryz.results12 (by kernel_rfl) rfl fun hw => ?_
 have hrl := fitRefs hf
 simp only [go_sem]
 refine LoopU.mk 1 (A := Nat) (fun x => [(16, .c (.v (.int .i64 (x))))]) (fun _ => [⟨46, 14, [w.c], true, true⟩]) (fun x => x ≤ w.d.l.length ∧ ∀ i, i < x → pw1 w i = false) (fun x => w.d.l.length - x) 0 ⟨⟨rfl, rfl⟩, rfl, Nat.zero_le _, fun i h => by omega⟩ ?_
 rintro k ⟨hk, hall⟩
 simp only [go_sem]
 refine cndC.mk (fun h => ?_) (fun h => ?_)
 ·have hk' : k < w.d.l.length := by simpa using h
  have hp : pw1 w k = ((chunkAt w w.d.l[k]).2 && wholeC (chunkAt w w.d.l[k]).1 w.t) := by unfold pw1; rw [refAt_eq hk']
  simp only [go_sem, map_at _ hk', hk']
  refine CallK.mk _ (by simpa only [go_sem] using iChunkOf_spec w w.d.l[k]) fun _ => ?_
  have hcl := chunk_len w w.d.l[k] hf
  generalize (chunkAt w w.d.l[k]).1 = c at hp hcl ⊢
  generalize (chunkAt w w.d.l[k]).2 = ok at hp ⊢
  rcases ok with _ | _
  ·simp only [go_sem, wrap_i64 (n := (k : Int) + 1) (by omega) (by omega)]
   exact ⟨k + 1, ⟨rfl, rfl⟩, rfl, ⟨hk', fun i h2 => by
    by_cases e : i = k
    ·subst e; rw [hp]; rfl
    ·exact hall i (by omega)⟩, by omega⟩
  ·simp only [go_sem]
   try refine DrawK.mk ?_
   try simp only [go_sem]
   first | refine CallF.mk _ (by simpa only [go_sem] using iWhole_spec c w.t hcl) ?_ | refine CallK.mk _ (by simpa only [go_sem] using iWhole_spec c w.t hcl) fun _ => ?_
   rcases hc : wholeC c w.t with _ | _
   ·simp only [go_sem, hc, wrap_i64 (n := (k : Int) + 1) (by omega) (by omega)]
    exact ⟨k + 1, ⟨rfl, rfl⟩, rfl, ⟨hk', fun i h2 => by
     by_cases e : i = k
     ·subst e; rw [hp, hc]; rfl
     ·exact hall i (by omega)⟩, by omega⟩
   ·rw [pack_one hk' (by rw [hp, hc]; rfl) hall]
    simp only [go_sem, hc]
 ·have hk' : k = w.d.l.length := by simp at h; omega
  subst hk'
  simp only [go_sem]
  refine LoopU.mk 1 (A := Nat) (fun x => [(8, .c (.v (.int .i64 (x))))]) (fun _ => [⟨46, 14, [w.c], true, true⟩]) (fun x => x ≤ w.d.l.length ∧ ∀ i, i < x → pw2 w i = false) (fun x => w.d.l.length - x) 0 ⟨⟨rfl, rfl⟩, rfl, Nat.zero_le _, fun i h => by omega⟩ ?_
  rintro k ⟨hk, hall2⟩
  simp only [go_sem, wrap_i64 (n := (k : Int) + 1) (by omega) (by omega)]
  refine cndC.mk (fun h => ?_) (fun h => ?_)
  ·have hk' : k + 1 < w.d.l.length := by simp at h; omega
   have hk0 : k < w.d.l.length := by omega
   have e1 : ((k : Int) + 1) = ((k + 1 : Nat) : Int) := by omega
   have hp : pw2 w k = (decide (nAt w w.d.l[k] ≥ 0) && (decide (nAt w w.d.l[k + 1] ≥ 0) && decide (nAt w w.d.l[k] + nAt w w.d.l[k + 1] ≤ 12))) := by
    unfold pw2; rw [refAt_eq hk0, refAt_eq hk']; simp [hk']
   have hw1 : IntKind.i64.wrap ((k + 1 : Nat) : Int) = ((k + 1 : Nat) : Int) := wrap_i64 (by omega) (by omega)
   have hwk : IntKind.i64.wrap ((k : Int) + 1) = (k : Int) + 1 := wrap_i64 (by omega) (by omega)
   have hn1 : pw2 w k = false → ∀ i, i < k + 1 → pw2 w i = false := fun h i h2 => by
    by_cases e : i = k
    ·subst e; exact h
    ·exact hall2 i (by omega)
   have ga := grp_len w w.d.l[k]
   have gb := grp_len w w.d.l[k + 1]
   have sa := iThere_spec w w.d.l[k]
   have sb := iThere_spec w w.d.l[k + 1]
   have ra := iGroupRows_spec w w.d.l[k] hf
   have rb := iGroupRows_spec w w.d.l[k + 1] hf
   have ha := map_at DRef.c hk0
   have hb := map_at DRef.c hk'
   unfold nAt at hp
   generalize w.d.l[k] = a at hp ga sa ra ha
   generalize w.d.l[k + 1] = b at hp gb sb rb hb
   simp only [go_sem, e1, hw1, ha, hb]
   refine DrawK.split 13 14 [0,1,2,3,4,5,6,7,8,9,10,11,12,13,14,15,16] [0,1,2,3,4,5,6,7,8,9,10,11,12,14,13,15,16] rfl (by kernel_rfl) (by kernel_rfl) ?_ ?_
   all_goals
    simp only [go_sem]
    refine DrawK.mkE ?_
    simp only [go_sem, e1, hw1, ha, hb]
    rcases ka : a.kind == 2 with _ | _
    ·simp only [go_sem, ka]
     refine DrawK.mk ?_
     simp only [go_sem, hwk]
     exact ⟨k + 1, ⟨rfl, rfl⟩, rfl, ⟨by omega, hn1 (by rw [hp, ka]; rfl)⟩, by omega⟩
    rcases kb : b.kind == 2 with _ | _
    ·simp only [go_sem, ka, kb]
     refine DrawK.mk ?_
     simp only [go_sem, hwk]
     exact ⟨k + 1, ⟨rfl, rfl⟩, rfl, ⟨by omega, hn1 (by rw [hp, kb]; simp)⟩, by omega⟩
    simp only [go_sem, ka, kb]
    refine CallK.mk _ (by simpa only [go_sem] using sa) fun _ => ?_
    rcases ta : there w a with _ | _
    ·simp only [go_sem, ta]
     refine DrawK.mk ?_
     simp only [go_sem, hwk]
     exact ⟨k + 1, ⟨rfl, rfl⟩, rfl, ⟨by omega, hn1 (by rw [hp, ta]; simp)⟩, by omega⟩
    simp only [go_sem, ta]
    refine CallK.mk _ (by simpa only [go_sem] using sb) fun _ => ?_
    rcases tb : there w b with _ | _
    ·simp only [go_sem, tb]
     refine DrawK.mk ?_
     simp only [go_sem, hwk]
     exact ⟨k + 1, ⟨rfl, rfl⟩, rfl, ⟨by omega, hn1 (by rw [hp, tb]; simp)⟩, by omega⟩
    simp only [go_sem, tb]
    refine DrawK.mk ?_
    simp only [go_sem, tb]
    simp only [ka, ta, Bool.and_self, if_true] at ra hp
    simp only [kb, tb, Bool.and_self, if_true] at rb hp
    refine CallF.mk _ (by simpa only [go_sem] using ra) ?_
    simp only [go_sem, tb]
    refine CallF.mk _ (by simpa only [go_sem] using rb) ?_
    have hp2 : pw2 w k = decide (((grpAt w a).length : Int) + (grpAt w b).length ≤ 12) := by rw [hp]; simp
    have hw2 : IntKind.i64.wrap (((grpAt w a).length : Int) + (grpAt w b).length) = ((grpAt w a).length : Int) + (grpAt w b).length := wrap_i64 (by omega) (by omega)
    simp only [go_sem, tb, hw2, ← hp2]
    rcases hq : pw2 w k with _ | _
    ·simp only [go_sem, hwk]
     exact ⟨k + 1, ⟨rfl, rfl⟩, rfl, ⟨by omega, hn1 hq⟩, by omega⟩
    ·rw [pack_two hall hk0 hq hall2]
     simp only [go_sem]
  ·have hk' : w.d.l.length ≤ k + 1 := by simp at h; omega
   rw [pack_none hall fun i hi => by
    by_cases e : i < k
    ·exact hall2 i e
    ·have : ¬ (i + 1 < w.d.l.length) := by omega
     unfold pw2
     simp [this]]
   simp only [go_sem]
noncomputable def lastN (w : DWorld) : Nat → Int
 | 0 => -1
 | k + 1 => nAt w (refAt w k)
theorem nAt_le (w : DWorld) (r : DRef) : nAt w r ≤ 12 ∧ -1 ≤ nAt w r := by
 unfold nAt
 have := grp_len w r
 split <;> omega
theorem lastN_le (w : DWorld) (k : Nat) : lastN w k ≤ 12 ∧ -1 ≤ lastN w k := by
 cases k with
 | zero => simp [lastN]
 | succ k => exact nAt_le w _
theorem sPackWhat_spec (w : DWorld) (hf : fitWorld w) : Ctr Tryz.prog 10 [.agg w.c] [.val (.c (.v (.int .i64 ((packWhat w).1)))), .val (.c (.v (.int .i64 ((packWhat w).2))))] := by
 refine Ctr.mk Tryz.call10 Tryz.func10 rfl mixed Tryz.ntmps10 Tryz.results10 (by kernel_rfl) rfl fun hw => ?_
 have hrl := fitRefs hf
 simp only [go_sem]
 refine LoopU.mk 1 (A := Nat) (fun x => [(4, .c (.v (.int .i64 (x))))]) (fun _ => [⟨46, 14, [w.c], true, true⟩]) (fun x => x ≤ w.d.l.length ∧ ∀ i, i < x → pw1 w i = false) (fun x => w.d.l.length - x) 0 ⟨⟨rfl, rfl⟩, rfl, Nat.zero_le _, fun i h => by omega⟩ ?_
 rintro k ⟨hk, hall⟩
 simp only [go_sem]
 refine cndC.mk (fun h => ?_) (fun h => ?_)
 ·have hk' : k < w.d.l.length := by simpa using h
  have hwk : IntKind.i64.wrap ((k : Int) + 1) = (k : Int) + 1 := wrap_i64 (by omega) (by omega)
  have hn1 : pw1 w k = false → ∀ i, i < k + 1 → pw1 w i = false := fun h i h2 => by
   by_cases e : i = k
   ·subst e; exact h
   ·exact hall i (by omega)
  have hp : pw1 w k = ((chunkAt w w.d.l[k]).2 && wholeC (chunkAt w w.d.l[k]).1 w.t) := by unfold pw1; rw [refAt_eq hk']
  have ha := map_at DRef.c hk'
  have sa := sThere_spec w w.d.l[k]
  generalize w.d.l[k] = a at hp ha sa
  simp only [go_sem, ha]
  refine DrawK.mk ?_
  simp only [go_sem, ha]
  rcases ka : a.kind == 1 with _ | _
  ·have hc : (chunkAt w a).2 = false := by
    unfold chunkAt
    split
    ·rfl
    ·simp [ka]
   simp only [go_sem, ka, hwk]
   exact ⟨k + 1, ⟨rfl, rfl⟩, rfl, ⟨hk', hn1 (by rw [hp, hc]; rfl)⟩, by omega⟩
  simp only [go_sem, ka]
  refine CallF.mk _ (by simpa only [go_sem] using sa) ?_
  rcases ta : there w a with _ | _
  ·have hc : (chunkAt w a).2 = false := by
    unfold chunkAt
    unfold there at ta
    split
    ·rfl
    ·rename_i b hb
     simp only [hb] at ta
     simp [ta]
   simp only [go_sem, ta, hwk]
   exact ⟨k + 1, ⟨rfl, rfl⟩, rfl, ⟨hk', hn1 (by rw [hp, hc]; rfl)⟩, by omega⟩
  obtain ⟨q, hq, hb, hat⟩ | ⟨hb, hat⟩ := bufAt_cases w a.buf
  ·have hc : chunkAt w a = (w.b[q].c0, true) := by
    unfold chunkAt
    simp only [there, hat] at ta
    simp [hat, ta, ka]
   have hfb := (fitBufs hf hq).1
   rw [fitChunk_eq] at hfb
   simp only [go_sem, ta, hb, map_at _ hq, hq]
   refine CallF.mk _ (by simpa only [go_sem] using sWhole_spec w.b[q].c0 w.t hfb.1) ?_
   rcases hw1 : wholeC w.b[q].c0 w.t with _ | _
   ·simp only [go_sem, hwk]
    exact ⟨k + 1, ⟨rfl, rfl⟩, rfl, ⟨hk', hn1 (by rw [hp, hc, hw1]; rfl)⟩, by omega⟩
   ·rw [pack_one hk' (by rw [hp, hc, hw1]; rfl) hall]
    simp only [go_sem]
  ·simp only [there, hat] at ta
   cases ta
 ·have hk' : k = w.d.l.length := by simp at h; omega
  subst hk'
  simp only [go_sem]
  refine LoopU.mk 1 (A := Nat) (fun x => [(7, .c (.v (.int .i64 (x)))), (6, .c (.v (.int .i64 (lastN w x))))]) (fun _ => [⟨46, 14, [w.c], true, true⟩]) (fun x => x ≤ w.d.l.length ∧ ∀ i, i + 1 < x → pw2 w i = false) (fun x => w.d.l.length - x) 0 ⟨⟨rfl, rfl⟩, rfl, Nat.zero_le _, fun i h => by omega⟩ ?_
  rintro k ⟨hk, hall2⟩
  simp only [go_sem]
  refine cndC.mk (fun h => ?_) (fun h => ?_)
  ·have hk' : k < w.d.l.length := by simpa using h
   have hwk : IntKind.i64.wrap ((k : Int) + 1) = (k : Int) + 1 := wrap_i64 (by omega) (by omega)
   have ha := map_at DRef.c hk'
   have sa := sThere_spec w w.d.l[k]
   have hla : lastN w (k + 1) = nAt w w.d.l[k] := by rw [lastN, refAt_eq hk']
   have hlk := lastN_le w k
   have hst : ∀ j, k = j + 1 → pw2 w j = (decide (lastN w k ≥ 0) && (decide (nAt w w.d.l[k] ≥ 0) && decide (lastN w k + nAt w w.d.l[k] ≤ 12))) := fun j e => by
    subst e
    unfold pw2
    rw [← show lastN w (j + 1) = nAt w (refAt w j) from rfl, refAt_eq hk']
    simp [hk']
   generalize w.d.l[k] = a at hla ha sa hst
   have hal := grp_len w a
   have hna := nAt_le w a
   have hyes : lastN w k ≥ 0 → nAt w a ≥ 0 → lastN w k + nAt w a ≤ 12 → packWhat w = ((k : Int) - 1, 2) := fun h1 h2 h3 => by
    cases k with
    | zero => simp [lastN] at h1
    | succ j =>
     rw [pack_two hall (k := j) (by omega) (by rw [hst j rfl]; simp [h1, h2, h3]) fun i hi => hall2 i (by omega)]
     simp
   have hno : ¬ (lastN w k ≥ 0 ∧ nAt w a ≥ 0 ∧ lastN w k + nAt w a ≤ 12) → ∀ i, i + 1 < k + 1 → pw2 w i = false := fun h3 i hi => by
    by_cases e : i + 1 < k
    ·exact hall2 i e
    ·rw [hst i (by omega), Bool.eq_false_iff]
     intro h4
     simp only [Bool.and_eq_true, decide_eq_true_eq] at h4
     exact h3 h4
   clear hst
   have em : decide ((-1 : Int) ≥ 0) = false := rfl
   simp only [go_sem, ha]
   refine DrawK.mk ?_
   simp only [go_sem, ha]
   have hneg : nAt w a = -1 → lastN w (k + 1) = -1 ∧ ∀ i, i + 1 < k + 1 → pw2 w i = false := fun h => ⟨by rw [hla, h], hno (by rw [h]; omega)⟩
   rcases ka : a.kind == 2 with _ | _
   ·obtain ⟨h1, h2⟩ := hneg (by unfold nAt; rw [ka]; rfl)
    simp only [go_sem, ka, hwk, em]
    exact ⟨k + 1, ⟨rfl, rfl⟩, by rw [h1]; rfl, ⟨hk', h2⟩, by omega⟩
   simp only [go_sem, ka, ha]
   refine CallF.mk _ (by simpa only [go_sem] using sa) ?_
   rcases ta : there w a with _ | _
   ·obtain ⟨h1, h2⟩ := hneg (by unfold nAt; rw [ta]; simp)
    simp only [go_sem, ta, hwk, em]
    exact ⟨k + 1, ⟨rfl, rfl⟩, by rw [h1]; rfl, ⟨hk', h2⟩, by omega⟩
   obtain ⟨q, hq, hb, hat⟩ | ⟨hb, hat⟩ := bufAt_cases w a.buf
   ·have s21 := sL21_spec w a hf hq hb
    have hN : nAt w a = ((grpAt w a).length : Int) := by unfold nAt; rw [ka, ta]; rfl
    rw [hN] at hyes hno hla
    simp only [go_sem, ta, ha]
    refine DrawK.mk ?_
    simp only [go_sem, ta, ha]
    refine CallF.mk _ (by simpa only [go_sem] using s21) ?_
    have e0 : decide (((grpAt w a).length : Int) ≥ 0) = true := by simp
    have hl2 : IntKind.i64.wrap (lastN w k + ((grpAt w a).length : Int)) = lastN w k + ((grpAt w a).length : Int) := wrap_i64 (by omega) (by omega)
    simp only [go_sem, e0]
    rcases h1 : decide (lastN w k ≥ 0) with _ | _
    ·simp only [go_sem, hwk]
     exact ⟨k + 1, ⟨rfl, rfl⟩, by rw [hla]; rfl, ⟨hk', hno fun h => by simp at h1; omega⟩, by omega⟩
    simp only [go_sem, hl2]
    rcases h2 : decide (lastN w k + ((grpAt w a).length : Int) ≤ 12) with _ | _
    ·simp only [go_sem, hwk]
     exact ⟨k + 1, ⟨rfl, rfl⟩, by rw [hla]; rfl, ⟨hk', hno fun h => by simp at h2; omega⟩, by omega⟩
    ·rw [hyes (by simpa using h1) (by omega) (by simpa using h2)]
     simp only [go_sem, wrap_i64 (n := (k : Int) - 1) (by omega) (by omega)]
   ·simp only [there, hat] at ta
    cases ta
  ·have hk' : k = w.d.l.length := by simp at h; omega
   subst hk'
   rw [pack_none hall fun i hi => by
    by_cases e : i + 1 < w.d.l.length
    ·exact hall2 i e
    ·unfold pw2
     simp [e]]
   simp only [go_sem]
end Go.Proofs.YthoeeoddgkjkkaaGreat
