/- Walks: a deed applied to a table: the program. -/
import Derived.Test.YtepjgnlinjlehaaGreatAn
namespace Go.Proofs.YtepjgnlinjlehaaGreat
set_option linter.unusedSimpArgs false
set_option linter.unusedVariables false
open Go.Vm
set_option maxHeartbeats 2000000
set_option maxRecDepth 10000

theorem drop_none {l : List DRow} {n : Int} (h : findR l n = none) : dropL l n = l := by
  unfold dropL
  rw [List.filter_eq_self]
  intro x hx
  have := List.find?_eq_none.1 h x hx
  simp only [hasN]
  simp at this ⊢
  intro h2; exact this h2.symm
theorem iDropL_spec (l : List DRow) (n : Int) (hl : fitS fitRow l) : Ctr Tryz.prog 51 [.c (.sl (l.map DRow.c)), .c (.sl ([n].map intC))] [.own 113 2 ((dropL l n).map DRow.o) true] := iDrop_spec l [n] hl (by simp)
theorem iApply_spec (t : DTable) (d : DDeed) (ht : fitTable t) (hd : fitDeed d) (hroom : tableOk t = true → t.l.length + 1 ≤ 1048576) : Ctr Tryz.prog 11 [.agg t.c, .agg d.c] [.agg (applyT t d).o, .val (.c (.v (.bool ((applyR t d).isSome))))] := by
  have ht0 := ht
  have hd0 := hd
  rw [fitTable_eq] at ht
  rw [fitDeed_eq] at hd
  refine Ctr.mk (fn := Tryz.f11) Tryz.call11 Tryz.func11 rfl mixed Tryz.ntmps11 Tryz.results11 (by kernel_rfl) rfl fun hw => ?_
  simp only [go_sem, List.getElem?_toArray, Nat.reduceBEq, Nat.reduceAdd, Nat.reduceSub, Nat.reduceMul, Nat.reduceLT, Nat.reduceLeDiff, Nat.reduceEqDiff, Nat.succ_ne_zero, reduceIte]
  refine CallK.mk _ (by simpa only [go_sem] using cloneTable_spec t ht.1 ht.2) fun _ => ?_
  simp only [go_sem, List.getElem?_toArray, Nat.reduceBEq, Nat.reduceAdd, Nat.reduceSub, Nat.reduceMul, Nat.reduceLT, Nat.reduceLeDiff, Nat.reduceEqDiff, Nat.succ_ne_zero, reduceIte, nr_int, nr_Row]
  refine CallK.mk _ (by simpa only [go_sem] using iTable_spec t) fun _ => ?_
  rcases h1 : tableOk t with _ | _
  · have hn : applyR t d = none := by simp only [applyR, doneB, h1]; rfl
    rw [applyT_no hn, hn]
    simp only [go_sem, List.getElem?_toArray, Nat.reduceBEq, Nat.reduceAdd, Nat.reduceSub, Nat.reduceMul, Nat.reduceLT, Nat.reduceLeDiff, Nat.reduceEqDiff, Nat.succ_ne_zero, reduceIte, h1, Option.isSome_none, nr_int, nr_Row]
    try simp [OwnL, pureC]
  have hroom := hroom h1
  simp only [go_sem, List.getElem?_toArray, Nat.reduceBEq, Nat.reduceAdd, Nat.reduceSub, Nat.reduceMul, Nat.reduceLT, Nat.reduceLeDiff, Nat.reduceEqDiff, Nat.succ_ne_zero, reduceIte, h1]
  refine CallK.mk _ (by simpa only [go_sem] using iDeedOk_spec d) fun _ => ?_
  rcases h2 : deedOk d with _ | _
  · have hn : applyR t d = none := by simp only [applyR, doneB, h1, h2]; rfl
    rw [applyT_no hn, hn]
    simp only [go_sem, List.getElem?_toArray, Nat.reduceBEq, Nat.reduceAdd, Nat.reduceSub, Nat.reduceMul, Nat.reduceLT, Nat.reduceLeDiff, Nat.reduceEqDiff, Nat.succ_ne_zero, reduceIte, h1, h2, Option.isSome_none, nr_int, nr_Row]
    try simp [OwnL, pureC]
  rcases h3 : (d.lin == -1) with _ | _
  rotate_left
  · have h3' : (d.lin != -1) = false := by simp [bne, h3]
    have hn : applyR t d = none := by simp only [applyR, doneB, h1, h2, h3']; rfl
    rw [applyT_no hn, hn]
    simp only [go_sem, List.getElem?_toArray, Nat.reduceBEq, Nat.reduceAdd, Nat.reduceSub, Nat.reduceMul, Nat.reduceLT, Nat.reduceLeDiff, Nat.reduceEqDiff, Nat.succ_ne_zero, reduceIte, h1, h2, h3, Option.isSome_none, nr_int, nr_Row]
    try simp [OwnL, pureC]
  have h3' : (d.lin != -1) = true := by simp [bne, h3]
  have hdone : doneB t d = true := by simp only [doneB, h1, h2, h3']; rfl
  simp only [go_sem, List.getElem?_toArray, Nat.reduceBEq, Nat.reduceAdd, Nat.reduceSub, Nat.reduceMul, Nat.reduceLT, Nat.reduceLeDiff, Nat.reduceEqDiff, Nat.succ_ne_zero, reduceIte, h1, h2, h3]
  refine CallK.mk _ (by simpa only [go_sem] using iFindV_spec t.l d.id ht.2) fun _ => ?_
  rcases hf : findR t.l d.id with _ | r
  · simp only [go_sem, List.getElem?_toArray, Nat.reduceBEq, Nat.reduceAdd, Nat.reduceSub, Nat.reduceMul, Nat.reduceLT, Nat.reduceLeDiff, Nat.reduceEqDiff, Nat.succ_ne_zero, reduceIte, hf, foundV, Option.isSome_none, Option.isSome_some]
    refine CallK.mk _ (iFits_spec t.cols d.r) fun _ => ?_
    rcases k1 : (d.op == 1) with _ | _
    rotate_left
    · rcases c1 : (d.code == 1) with _ | _
      · have hputT : putT t d = t := by simp [putT, c1]
        rcases c4 : (d.code == 4) with _ | _
        rotate_left
        · have hok : putOk t d = !fits t.cols d.r := by simp [putOk, c4]
          rcases h5 : fits t.cols d.r with _ | _
          · rw [h5] at hok
            have hn : applyR t d = some (t) := by simp only [applyR, hdone, k1, hok, hputT, Bool.not_false]; rfl
            rw [applyT_yes hn, hn]
            simp only [go_sem, List.getElem?_toArray, Nat.reduceBEq, Nat.reduceAdd, Nat.reduceSub, Nat.reduceMul, Nat.reduceLT, Nat.reduceLeDiff, Nat.reduceEqDiff, Nat.succ_ne_zero, reduceIte, k1, c1, c4, h5, Option.isSome_some, Option.isSome_none, nr_int, nr_Row]
            try simp [OwnL, pureC]
          · rw [h5] at hok
            have hn : applyR t d = none := by simp only [applyR, hdone, k1, hok, Bool.not_true]; rfl
            rw [applyT_no hn, hn]
            simp only [go_sem, List.getElem?_toArray, Nat.reduceBEq, Nat.reduceAdd, Nat.reduceSub, Nat.reduceMul, Nat.reduceLT, Nat.reduceLeDiff, Nat.reduceEqDiff, Nat.succ_ne_zero, reduceIte, k1, c1, c4, h5, Option.isSome_some, Option.isSome_none, nr_int, nr_Row]
            try simp [OwnL, pureC]
        rcases c3 : (d.code == 3) with _ | _
        · have hok : putOk t d = false := by simp [putOk, c4, c3, c1]
          have hn : applyR t d = none := by simp only [applyR, hdone, k1, hok]; rfl
          rw [applyT_no hn, hn]
          simp only [go_sem, List.getElem?_toArray, Nat.reduceBEq, Nat.reduceAdd, Nat.reduceSub, Nat.reduceMul, Nat.reduceLT, Nat.reduceLeDiff, Nat.reduceEqDiff, Nat.succ_ne_zero, reduceIte, k1, c1, c4, c3, Option.isSome_some, Option.isSome_none, nr_int, nr_Row]
          try simp [OwnL, pureC]
        · have hok : putOk t d = fits t.cols d.r := by simp [putOk, c4, c3]
          rcases h5 : fits t.cols d.r with _ | _
          · rw [h5] at hok
            have hn : applyR t d = none := by simp only [applyR, hdone, k1, hok]; rfl
            rw [applyT_no hn, hn]
            simp only [go_sem, List.getElem?_toArray, Nat.reduceBEq, Nat.reduceAdd, Nat.reduceSub, Nat.reduceMul, Nat.reduceLT, Nat.reduceLeDiff, Nat.reduceEqDiff, Nat.succ_ne_zero, reduceIte, k1, c1, c4, c3, h5, Option.isSome_some, Option.isSome_none, nr_int, nr_Row]
            try simp [OwnL, pureC]
          · rw [h5] at hok
            have hn : applyR t d = some (t) := by simp only [applyR, hdone, k1, hok, hputT]; rfl
            rw [applyT_yes hn, hn]
            simp only [go_sem, List.getElem?_toArray, Nat.reduceBEq, Nat.reduceAdd, Nat.reduceSub, Nat.reduceMul, Nat.reduceLT, Nat.reduceLeDiff, Nat.reduceEqDiff, Nat.succ_ne_zero, reduceIte, k1, c1, c4, c3, h5, Option.isSome_some, Option.isSome_none, nr_int, nr_Row]
            try simp [OwnL, pureC]
      · have c4 : (d.code == 4) = false := by simp at c1 ⊢; omega
        have c3 : (d.code == 3) = false := by simp at c1 ⊢; omega
        have hok : putOk t d = !((findR t.l d.id).isSome || (!fits t.cols d.r || decide (d.id < 0))) := by simp [putOk, c4, c3, c1]
        rcases h5 : fits t.cols d.r with _ | _
        · have hok2 : putOk t d = false := by rw [hok, h5]; simp
          have hn : applyR t d = none := by simp only [applyR, hdone, k1, hok2]; rfl
          rw [applyT_no hn, hn]
          simp only [go_sem, List.getElem?_toArray, Nat.reduceBEq, Nat.reduceAdd, Nat.reduceSub, Nat.reduceMul, Nat.reduceLT, Nat.reduceLeDiff, Nat.reduceEqDiff, Nat.succ_ne_zero, reduceIte, k1, c1, h5, Option.isSome_some, Option.isSome_none, nr_int, nr_Row]
          try simp [OwnL, pureC]
        rcases h6 : decide (d.id ≥ 0) with _ | _
        · have h6' : decide (d.id < 0) = true := by simp at h6 ⊢; omega
          have hok2 : putOk t d = false := by rw [hok, h5, h6']; simp
          have hn : applyR t d = none := by simp only [applyR, hdone, k1, hok2]; rfl
          rw [applyT_no hn, hn]
          simp only [go_sem, List.getElem?_toArray, Nat.reduceBEq, Nat.reduceAdd, Nat.reduceSub, Nat.reduceMul, Nat.reduceLT, Nat.reduceLeDiff, Nat.reduceEqDiff, Nat.succ_ne_zero, reduceIte, k1, c1, h5, h6, Option.isSome_some, Option.isSome_none, nr_int, nr_Row]
          try simp [OwnL, pureC]
        have h6' : decide (d.id < 0) = false := by simp at h6 ⊢; omega
        have hok2 : putOk t d = true := by rw [hok, hf, h5, h6']; rfl
        have hputT : putT t d = ⟨t.cols, putR t.l (putD d)⟩ := by simp only [putT, c1, hok2]; rfl
        have hn : applyR t d = some (⟨t.cols, putR t.l (putD d)⟩) := by simp only [applyR, hdone, k1, hok2, hputT]; rfl
        rw [applyT_yes hn, hn]
        simp only [go_sem, List.getElem?_toArray, Nat.reduceBEq, Nat.reduceAdd, Nat.reduceSub, Nat.reduceMul, Nat.reduceLT, Nat.reduceLeDiff, Nat.reduceEqDiff, Nat.succ_ne_zero, reduceIte, k1, c1, h5, h6, Bool.not_false, Option.isSome_some]
        refine CallK.mk _ (by simpa only [go_sem, putD] using iPut_spec t.l (putD d) ht.2 hd.1.1) fun _ => ?_
        simp only [go_sem, List.getElem?_toArray, Nat.reduceBEq, Nat.reduceAdd, Nat.reduceSub, Nat.reduceMul, Nat.reduceLT, Nat.reduceLeDiff, Nat.reduceEqDiff, Nat.succ_ne_zero, reduceIte, putD, nr_int, nr_Row]
        try simp [OwnL, pureC, putD]
    rcases k2 : (d.op == 2) with _ | _
    rotate_left
    · rcases c1 : (d.code == 1) with _ | _
      rotate_left
      · have c4 : (d.code == 4) = false := by simp at c1 ⊢; omega
        have c2 : (d.code == 2) = false := by simp at c1 ⊢; omega
        have hok : dropOk t d = (findR t.l d.id).isSome := by simp [dropOk, c4, c2, c1]
        rw [hf] at hok
        have hdT : dropT t d = ⟨t.cols, dropL t.l d.id⟩ := by simp [dropT, c1]
        have hn : applyR t d = none := by simp only [applyR, hdone, k1, k2, hok, Option.isSome_none]; rfl
        rw [applyT_no hn, hn]
        have hsame := drop_none hf
        simp only [go_sem, List.getElem?_toArray, Nat.reduceBEq, Nat.reduceAdd, Nat.reduceSub, Nat.reduceMul, Nat.reduceLT, Nat.reduceLeDiff, Nat.reduceEqDiff, Nat.succ_ne_zero, reduceIte, k1, k2, c1, Option.isSome_some, Option.isSome_none, Option.getD_some, List.length_cons, List.length_nil]
        refine CallK.mk _ (by simpa only [go_sem, List.map_cons, List.map_nil, intC] using iDropL_spec t.l d.id ht.2) fun _ => ?_
        simp only [go_sem, List.getElem?_toArray, Nat.reduceBEq, Nat.reduceAdd, Nat.reduceSub, Nat.reduceMul, Nat.reduceLT, Nat.reduceLeDiff, Nat.reduceEqDiff, Nat.succ_ne_zero, reduceIte, k1, k2, c1, nr_int, nr_Row]
        try rw [hsame]
        try simp [OwnL, pureC]
      have hdT : dropT t d = t := by simp [dropT, c1]
      rcases c2 : (d.code == 2) with _ | _
      rotate_left
      · have c4 : (d.code == 4) = false := by simp at c2 ⊢; omega
        have hok : dropOk t d = !(findR t.l d.id).isSome := by simp [dropOk, c4, c2]
        rw [hf] at hok
        have hn : applyR t d = some (t) := by simp only [applyR, hdone, k1, k2, hok, hdT, Option.isSome_some, Option.isSome_none, Bool.not_true, Bool.not_false]; rfl
        rw [applyT_yes hn, hn]
        simp only [go_sem, List.getElem?_toArray, Nat.reduceBEq, Nat.reduceAdd, Nat.reduceSub, Nat.reduceMul, Nat.reduceLT, Nat.reduceLeDiff, Nat.reduceEqDiff, Nat.succ_ne_zero, reduceIte, k1, k2, c1, c2, Bool.not_true, Bool.not_false, Option.isSome_some, Option.isSome_none, nr_int, nr_Row]
        try simp [OwnL, pureC]
      rcases c4 : (d.code == 4) with _ | _
      · have hok : dropOk t d = false := by simp [dropOk, c4, c2, c1]
        have hn : applyR t d = none := by simp only [applyR, hdone, k1, k2, hok]; rfl
        rw [applyT_no hn, hn]
        simp only [go_sem, List.getElem?_toArray, Nat.reduceBEq, Nat.reduceAdd, Nat.reduceSub, Nat.reduceMul, Nat.reduceLT, Nat.reduceLeDiff, Nat.reduceEqDiff, Nat.succ_ne_zero, reduceIte, k1, k2, c1, c2, c4, Option.isSome_some, Option.isSome_none, nr_int, nr_Row]
        try simp [OwnL, pureC]
      have hok : dropOk t d = decide (d.id < 0) := by simp [dropOk, c4]
      rcases h6 : decide (d.id < 0) with _ | _
      · rw [h6] at hok
        have hn : applyR t d = none := by simp only [applyR, hdone, k1, k2, hok]; rfl
        rw [applyT_no hn, hn]
        simp only [go_sem, List.getElem?_toArray, Nat.reduceBEq, Nat.reduceAdd, Nat.reduceSub, Nat.reduceMul, Nat.reduceLT, Nat.reduceLeDiff, Nat.reduceEqDiff, Nat.succ_ne_zero, reduceIte, k1, k2, c1, c2, c4, h6, Option.isSome_some, Option.isSome_none, nr_int, nr_Row]
        try simp [OwnL, pureC]
      · rw [h6] at hok
        have hn : applyR t d = some (t) := by simp only [applyR, hdone, k1, k2, hok, hdT]; rfl
        rw [applyT_yes hn, hn]
        simp only [go_sem, List.getElem?_toArray, Nat.reduceBEq, Nat.reduceAdd, Nat.reduceSub, Nat.reduceMul, Nat.reduceLT, Nat.reduceLeDiff, Nat.reduceEqDiff, Nat.succ_ne_zero, reduceIte, k1, k2, c1, c2, c4, h6, Option.isSome_some, Option.isSome_none, nr_int, nr_Row]
        try simp [OwnL, pureC]
    rcases k3 : (d.op == 3) with _ | _
    rotate_left
    · simp only [go_sem, List.getElem?_toArray, Nat.reduceBEq, Nat.reduceAdd, Nat.reduceSub, Nat.reduceMul, Nat.reduceLT, Nat.reduceLeDiff, Nat.reduceEqDiff, Nat.succ_ne_zero, reduceIte, k1, k2, k3]
      refine CallK.mk _ (by simpa only [go_sem] using iQueryOk_spec t.cols d.q ht.1 hd.2.1) fun _ => ?_
      rcases h7 : queryOk t.cols d.q with _ | _
      · rcases c1 : (d.code == 1) with _ | _
        · rcases c0 : (d.code == 0) with _ | _
          · rcases c4 : (d.code == 4) with _ | _
            · have hok : scanOk t d = false := by simp only [scanOk, c0, c4, c1]; rfl
              have hn : applyR t d = none := by simp only [applyR, hdone, k1, k2, k3, hok]; rfl
              rw [applyT_no hn, hn]
              simp only [go_sem, List.getElem?_toArray, Nat.reduceBEq, Nat.reduceAdd, Nat.reduceSub, Nat.reduceMul, Nat.reduceLT, Nat.reduceLeDiff, Nat.reduceEqDiff, Nat.succ_ne_zero, reduceIte, k1, k2, k3, c1, c0, c4, h7, Option.isSome_some, Option.isSome_none, nr_int, nr_Row]
              try simp [OwnL, pureC]
            · have hok : scanOk t d = !queryOk t.cols d.q := by simp only [scanOk, c0, c4]; rfl
              rw [h7] at hok
              have hn : applyR t d = some (t) := by simp only [applyR, hdone, k1, k2, k3, hok, Bool.not_false]; rfl
              rw [applyT_yes hn, hn]
              simp only [go_sem, List.getElem?_toArray, Nat.reduceBEq, Nat.reduceAdd, Nat.reduceSub, Nat.reduceMul, Nat.reduceLT, Nat.reduceLeDiff, Nat.reduceEqDiff, Nat.succ_ne_zero, reduceIte, k1, k2, k3, c1, c0, c4, h7, Bool.not_false, Option.isSome_some, Option.isSome_none, nr_int, nr_Row]
              try simp [OwnL, pureC]
          · have hok : scanOk t d = queryOk t.cols d.q := by simp only [scanOk, c0]; rfl
            rw [h7] at hok
            have hn : applyR t d = none := by simp only [applyR, hdone, k1, k2, k3, hok]; rfl
            rw [applyT_no hn, hn]
            simp only [go_sem, List.getElem?_toArray, Nat.reduceBEq, Nat.reduceAdd, Nat.reduceSub, Nat.reduceMul, Nat.reduceLT, Nat.reduceLeDiff, Nat.reduceEqDiff, Nat.succ_ne_zero, reduceIte, k1, k2, k3, c1, c0, h7, Option.isSome_some, Option.isSome_none, nr_int, nr_Row]
            try simp [OwnL, pureC]
        · have c0 : (d.code == 0) = false := by simp at c1 ⊢; omega
          have c4 : (d.code == 4) = false := by simp at c1 ⊢; omega
          have hok : scanOk t d = (queryOk t.cols d.q && sameRes d.res (answer d.q t.l)) := by simp only [scanOk, c0, c4, c1]; rfl
          rw [h7] at hok
          have hn : applyR t d = none := by simp only [applyR, hdone, k1, k2, k3, hok, Bool.false_and]; rfl
          rw [applyT_no hn, hn]
          simp only [go_sem, List.getElem?_toArray, Nat.reduceBEq, Nat.reduceAdd, Nat.reduceSub, Nat.reduceMul, Nat.reduceLT, Nat.reduceLeDiff, Nat.reduceEqDiff, Nat.succ_ne_zero, reduceIte, k1, k2, k3, c1, h7, Option.isSome_some, Option.isSome_none, nr_int, nr_Row]
          refine DrawK.mk ?_
          simp only [go_sem, List.getElem?_toArray, Nat.reduceBEq, Nat.reduceAdd, Nat.reduceSub, Nat.reduceMul, Nat.reduceLT, Nat.reduceLeDiff, Nat.reduceEqDiff, Nat.succ_ne_zero, reduceIte, k1, k2, k3, c1, h7, Option.isSome_some, Option.isSome_none, nr_int, nr_Row]
          try simp [OwnL, pureC]
      · rcases c1 : (d.code == 1) with _ | _
        · rcases c0 : (d.code == 0) with _ | _
          · rcases c4 : (d.code == 4) with _ | _
            · have hok : scanOk t d = false := by simp only [scanOk, c0, c4, c1]; rfl
              have hn : applyR t d = none := by simp only [applyR, hdone, k1, k2, k3, hok]; rfl
              rw [applyT_no hn, hn]
              simp only [go_sem, List.getElem?_toArray, Nat.reduceBEq, Nat.reduceAdd, Nat.reduceSub, Nat.reduceMul, Nat.reduceLT, Nat.reduceLeDiff, Nat.reduceEqDiff, Nat.succ_ne_zero, reduceIte, k1, k2, k3, c1, c0, c4, h7, Option.isSome_some, Option.isSome_none, nr_int, nr_Row]
              try simp [OwnL, pureC]
            · have hok : scanOk t d = !queryOk t.cols d.q := by simp only [scanOk, c0, c4]; rfl
              rw [h7] at hok
              have hn : applyR t d = none := by simp only [applyR, hdone, k1, k2, k3, hok, Bool.not_true]; rfl
              rw [applyT_no hn, hn]
              simp only [go_sem, List.getElem?_toArray, Nat.reduceBEq, Nat.reduceAdd, Nat.reduceSub, Nat.reduceMul, Nat.reduceLT, Nat.reduceLeDiff, Nat.reduceEqDiff, Nat.succ_ne_zero, reduceIte, k1, k2, k3, c1, c0, c4, h7, Bool.not_true, Option.isSome_some, Option.isSome_none, nr_int, nr_Row]
              try simp [OwnL, pureC]
          · have hok : scanOk t d = queryOk t.cols d.q := by simp only [scanOk, c0]; rfl
            rw [h7] at hok
            have hn : applyR t d = some (t) := by simp only [applyR, hdone, k1, k2, k3, hok]; rfl
            rw [applyT_yes hn, hn]
            simp only [go_sem, List.getElem?_toArray, Nat.reduceBEq, Nat.reduceAdd, Nat.reduceSub, Nat.reduceMul, Nat.reduceLT, Nat.reduceLeDiff, Nat.reduceEqDiff, Nat.succ_ne_zero, reduceIte, k1, k2, k3, c1, c0, h7, Option.isSome_some, Option.isSome_none, nr_int, nr_Row]
            try simp [OwnL, pureC]
        · have c0 : (d.code == 0) = false := by simp at c1 ⊢; omega
          have c4 : (d.code == 4) = false := by simp at c1 ⊢; omega
          have hok : scanOk t d = (queryOk t.cols d.q && sameRes d.res (answer d.q t.l)) := by simp only [scanOk, c0, c4, c1]; rfl
          rw [h7] at hok
          simp only [go_sem, List.getElem?_toArray, Nat.reduceBEq, Nat.reduceAdd, Nat.reduceSub, Nat.reduceMul, Nat.reduceLT, Nat.reduceLeDiff, Nat.reduceEqDiff, Nat.succ_ne_zero, reduceIte, k1, k2, k3, c1, h7]
          refine DrawK.mk ?_
          simp only [go_sem, List.getElem?_toArray, Nat.reduceBEq, Nat.reduceAdd, Nat.reduceSub, Nat.reduceMul, Nat.reduceLT, Nat.reduceLeDiff, Nat.reduceEqDiff, Nat.succ_ne_zero, reduceIte, k1, k2, k3, c1, h7]
          refine CallF.mk _ (by simpa only [go_sem] using answer_frz (iAnswer_spec d.q t.l hd.2.1 ht.2)) ?_
          simp only [go_sem, List.getElem?_toArray, Nat.reduceBEq, Nat.reduceAdd, Nat.reduceSub, Nat.reduceMul, Nat.reduceLT, Nat.reduceLeDiff, Nat.reduceEqDiff, Nat.succ_ne_zero, reduceIte, k1, k2, k3, c1, h7]
          refine CallF.mk _ (by simpa only [go_sem] using iSameRes_spec d.res (answer d.q t.l) hd.2.2.1 (answer_fit d.q t.l hd.2.1.2 ht.2)) ?_
          rw [Bool.true_and] at hok
          rcases h8 : sameRes d.res (answer d.q t.l) with _ | _
          · rw [h8] at hok
            have hn : applyR t d = none := by simp only [applyR, hdone, k1, k2, k3, hok]; rfl
            rw [applyT_no hn, hn]
            simp only [go_sem, List.getElem?_toArray, Nat.reduceBEq, Nat.reduceAdd, Nat.reduceSub, Nat.reduceMul, Nat.reduceLT, Nat.reduceLeDiff, Nat.reduceEqDiff, Nat.succ_ne_zero, reduceIte, k1, k2, k3, c1, h7, h8, Option.isSome_some, Option.isSome_none, nr_int, nr_Row]
            try simp [OwnL, pureC]
          · rw [h8] at hok
            have hn : applyR t d = some t := by simp only [applyR, hdone, k1, k2, k3, hok]; rfl
            rw [applyT_yes hn, hn]
            simp only [go_sem, List.getElem?_toArray, Nat.reduceBEq, Nat.reduceAdd, Nat.reduceSub, Nat.reduceMul, Nat.reduceLT, Nat.reduceLeDiff, Nat.reduceEqDiff, Nat.succ_ne_zero, reduceIte, k1, k2, k3, c1, h7, h8, Option.isSome_some, Option.isSome_none, nr_int, nr_Row]
            try simp [OwnL, pureC]
    have k4 : (d.op == 4) = true := by
      simp only [deedOk] at h2
      rcases h8 : inR d.op 1 4 with _ | _
      · rw [h8] at h2; simp at h2
      · simp [inR] at h8 k1 k2 k3 ⊢; omega
    have hn : applyR t d = some (t) := by simp only [applyR, hdone, k1, k2, k3]; rfl
    rw [applyT_yes hn, hn]
    simp only [go_sem, List.getElem?_toArray, Nat.reduceBEq, Nat.reduceAdd, Nat.reduceSub, Nat.reduceMul, Nat.reduceLT, Nat.reduceLeDiff, Nat.reduceEqDiff, Nat.succ_ne_zero, reduceIte, k1, k2, k3, k4, Option.isSome_some, Option.isSome_none, nr_int, nr_Row]
    try simp [OwnL, pureC]
  · simp only [go_sem, List.getElem?_toArray, Nat.reduceBEq, Nat.reduceAdd, Nat.reduceSub, Nat.reduceMul, Nat.reduceLT, Nat.reduceLeDiff, Nat.reduceEqDiff, Nat.succ_ne_zero, reduceIte, hf, foundV, Option.isSome_none, Option.isSome_some]
    refine CallK.mk _ (iFits_spec t.cols d.r) fun _ => ?_
    rcases k1 : (d.op == 1) with _ | _
    rotate_left
    · rcases c1 : (d.code == 1) with _ | _
      · have hputT : putT t d = t := by simp [putT, c1]
        rcases c4 : (d.code == 4) with _ | _
        rotate_left
        · have hok : putOk t d = !fits t.cols d.r := by simp [putOk, c4]
          rcases h5 : fits t.cols d.r with _ | _
          · rw [h5] at hok
            have hn : applyR t d = some (t) := by simp only [applyR, hdone, k1, hok, hputT, Bool.not_false]; rfl
            rw [applyT_yes hn, hn]
            simp only [go_sem, List.getElem?_toArray, Nat.reduceBEq, Nat.reduceAdd, Nat.reduceSub, Nat.reduceMul, Nat.reduceLT, Nat.reduceLeDiff, Nat.reduceEqDiff, Nat.succ_ne_zero, reduceIte, k1, c1, c4, h5, Option.isSome_some, Option.isSome_none, nr_int, nr_Row]
            try simp [OwnL, pureC]
          · rw [h5] at hok
            have hn : applyR t d = none := by simp only [applyR, hdone, k1, hok, Bool.not_true]; rfl
            rw [applyT_no hn, hn]
            simp only [go_sem, List.getElem?_toArray, Nat.reduceBEq, Nat.reduceAdd, Nat.reduceSub, Nat.reduceMul, Nat.reduceLT, Nat.reduceLeDiff, Nat.reduceEqDiff, Nat.succ_ne_zero, reduceIte, k1, c1, c4, h5, Option.isSome_some, Option.isSome_none, nr_int, nr_Row]
            try simp [OwnL, pureC]
        rcases c3 : (d.code == 3) with _ | _
        · have hok : putOk t d = false := by simp [putOk, c4, c3, c1]
          have hn : applyR t d = none := by simp only [applyR, hdone, k1, hok]; rfl
          rw [applyT_no hn, hn]
          simp only [go_sem, List.getElem?_toArray, Nat.reduceBEq, Nat.reduceAdd, Nat.reduceSub, Nat.reduceMul, Nat.reduceLT, Nat.reduceLeDiff, Nat.reduceEqDiff, Nat.succ_ne_zero, reduceIte, k1, c1, c4, c3, Option.isSome_some, Option.isSome_none, nr_int, nr_Row]
          try simp [OwnL, pureC]
        · have hok : putOk t d = fits t.cols d.r := by simp [putOk, c4, c3]
          rcases h5 : fits t.cols d.r with _ | _
          · rw [h5] at hok
            have hn : applyR t d = none := by simp only [applyR, hdone, k1, hok]; rfl
            rw [applyT_no hn, hn]
            simp only [go_sem, List.getElem?_toArray, Nat.reduceBEq, Nat.reduceAdd, Nat.reduceSub, Nat.reduceMul, Nat.reduceLT, Nat.reduceLeDiff, Nat.reduceEqDiff, Nat.succ_ne_zero, reduceIte, k1, c1, c4, c3, h5, Option.isSome_some, Option.isSome_none, nr_int, nr_Row]
            try simp [OwnL, pureC]
          · rw [h5] at hok
            have hn : applyR t d = some (t) := by simp only [applyR, hdone, k1, hok, hputT]; rfl
            rw [applyT_yes hn, hn]
            simp only [go_sem, List.getElem?_toArray, Nat.reduceBEq, Nat.reduceAdd, Nat.reduceSub, Nat.reduceMul, Nat.reduceLT, Nat.reduceLeDiff, Nat.reduceEqDiff, Nat.succ_ne_zero, reduceIte, k1, c1, c4, c3, h5, Option.isSome_some, Option.isSome_none, nr_int, nr_Row]
            try simp [OwnL, pureC]
      · have c4 : (d.code == 4) = false := by simp at c1 ⊢; omega
        have c3 : (d.code == 3) = false := by simp at c1 ⊢; omega
        have hok : putOk t d = !((findR t.l d.id).isSome || (!fits t.cols d.r || decide (d.id < 0))) := by simp [putOk, c4, c3, c1]
        rcases h5 : fits t.cols d.r with _ | _
        · have hok2 : putOk t d = false := by rw [hok, h5]; simp
          have hn : applyR t d = none := by simp only [applyR, hdone, k1, hok2]; rfl
          rw [applyT_no hn, hn]
          simp only [go_sem, List.getElem?_toArray, Nat.reduceBEq, Nat.reduceAdd, Nat.reduceSub, Nat.reduceMul, Nat.reduceLT, Nat.reduceLeDiff, Nat.reduceEqDiff, Nat.succ_ne_zero, reduceIte, k1, c1, h5, Option.isSome_some, Option.isSome_none, nr_int, nr_Row]
          try simp [OwnL, pureC]
        rcases h6 : decide (d.id ≥ 0) with _ | _
        · have h6' : decide (d.id < 0) = true := by simp at h6 ⊢; omega
          have hok2 : putOk t d = false := by rw [hok, h5, h6']; simp
          have hn : applyR t d = none := by simp only [applyR, hdone, k1, hok2]; rfl
          rw [applyT_no hn, hn]
          simp only [go_sem, List.getElem?_toArray, Nat.reduceBEq, Nat.reduceAdd, Nat.reduceSub, Nat.reduceMul, Nat.reduceLT, Nat.reduceLeDiff, Nat.reduceEqDiff, Nat.succ_ne_zero, reduceIte, k1, c1, h5, h6, Option.isSome_some, Option.isSome_none, nr_int, nr_Row]
          try simp [OwnL, pureC]
        have h6' : decide (d.id < 0) = false := by simp at h6 ⊢; omega
        have hok2 : putOk t d = false := by rw [hok, hf]; simp
        have hn : applyR t d = none := by simp only [applyR, hdone, k1, hok2]; rfl
        rw [applyT_no hn, hn]
        simp only [go_sem, List.getElem?_toArray, Nat.reduceBEq, Nat.reduceAdd, Nat.reduceSub, Nat.reduceMul, Nat.reduceLT, Nat.reduceLeDiff, Nat.reduceEqDiff, Nat.succ_ne_zero, reduceIte, k1, c1, h5, h6, Bool.not_true, Option.isSome_some, Option.isSome_none, nr_int, nr_Row]
        try simp [OwnL, pureC]
    rcases k2 : (d.op == 2) with _ | _
    rotate_left
    · rcases c1 : (d.code == 1) with _ | _
      rotate_left
      · have c4 : (d.code == 4) = false := by simp at c1 ⊢; omega
        have c2 : (d.code == 2) = false := by simp at c1 ⊢; omega
        have hok : dropOk t d = (findR t.l d.id).isSome := by simp [dropOk, c4, c2, c1]
        rw [hf] at hok
        have hdT : dropT t d = ⟨t.cols, dropL t.l d.id⟩ := by simp [dropT, c1]
        have hn : applyR t d = some (⟨t.cols, dropL t.l d.id⟩) := by simp only [applyR, hdone, k1, k2, hok, hdT, Option.isSome_some]; rfl
        rw [applyT_yes hn, hn]
        simp only [go_sem, List.getElem?_toArray, Nat.reduceBEq, Nat.reduceAdd, Nat.reduceSub, Nat.reduceMul, Nat.reduceLT, Nat.reduceLeDiff, Nat.reduceEqDiff, Nat.succ_ne_zero, reduceIte, k1, k2, c1, Option.isSome_some, Option.isSome_none, Option.getD_some, List.length_cons, List.length_nil]
        refine CallK.mk _ (by simpa only [go_sem, List.map_cons, List.map_nil, intC] using iDropL_spec t.l d.id ht.2) fun _ => ?_
        simp only [go_sem, List.getElem?_toArray, Nat.reduceBEq, Nat.reduceAdd, Nat.reduceSub, Nat.reduceMul, Nat.reduceLT, Nat.reduceLeDiff, Nat.reduceEqDiff, Nat.succ_ne_zero, reduceIte, k1, k2, c1, nr_int, nr_Row]
        try simp [OwnL, pureC]
      have hdT : dropT t d = t := by simp [dropT, c1]
      rcases c2 : (d.code == 2) with _ | _
      rotate_left
      · have c4 : (d.code == 4) = false := by simp at c2 ⊢; omega
        have hok : dropOk t d = !(findR t.l d.id).isSome := by simp [dropOk, c4, c2]
        rw [hf] at hok
        have hn : applyR t d = none := by simp only [applyR, hdone, k1, k2, hok, hdT, Option.isSome_some, Option.isSome_none, Bool.not_true, Bool.not_false]; rfl
        rw [applyT_no hn, hn]
        simp only [go_sem, List.getElem?_toArray, Nat.reduceBEq, Nat.reduceAdd, Nat.reduceSub, Nat.reduceMul, Nat.reduceLT, Nat.reduceLeDiff, Nat.reduceEqDiff, Nat.succ_ne_zero, reduceIte, k1, k2, c1, c2, Bool.not_true, Bool.not_false, Option.isSome_some, Option.isSome_none, nr_int, nr_Row]
        try simp [OwnL, pureC]
      rcases c4 : (d.code == 4) with _ | _
      · have hok : dropOk t d = false := by simp [dropOk, c4, c2, c1]
        have hn : applyR t d = none := by simp only [applyR, hdone, k1, k2, hok]; rfl
        rw [applyT_no hn, hn]
        simp only [go_sem, List.getElem?_toArray, Nat.reduceBEq, Nat.reduceAdd, Nat.reduceSub, Nat.reduceMul, Nat.reduceLT, Nat.reduceLeDiff, Nat.reduceEqDiff, Nat.succ_ne_zero, reduceIte, k1, k2, c1, c2, c4, Option.isSome_some, Option.isSome_none, nr_int, nr_Row]
        try simp [OwnL, pureC]
      have hok : dropOk t d = decide (d.id < 0) := by simp [dropOk, c4]
      rcases h6 : decide (d.id < 0) with _ | _
      · rw [h6] at hok
        have hn : applyR t d = none := by simp only [applyR, hdone, k1, k2, hok]; rfl
        rw [applyT_no hn, hn]
        simp only [go_sem, List.getElem?_toArray, Nat.reduceBEq, Nat.reduceAdd, Nat.reduceSub, Nat.reduceMul, Nat.reduceLT, Nat.reduceLeDiff, Nat.reduceEqDiff, Nat.succ_ne_zero, reduceIte, k1, k2, c1, c2, c4, h6, Option.isSome_some, Option.isSome_none, nr_int, nr_Row]
        try simp [OwnL, pureC]
      · rw [h6] at hok
        have hn : applyR t d = some (t) := by simp only [applyR, hdone, k1, k2, hok, hdT]; rfl
        rw [applyT_yes hn, hn]
        simp only [go_sem, List.getElem?_toArray, Nat.reduceBEq, Nat.reduceAdd, Nat.reduceSub, Nat.reduceMul, Nat.reduceLT, Nat.reduceLeDiff, Nat.reduceEqDiff, Nat.succ_ne_zero, reduceIte, k1, k2, c1, c2, c4, h6, Option.isSome_some, Option.isSome_none, nr_int, nr_Row]
        try simp [OwnL, pureC]
    rcases k3 : (d.op == 3) with _ | _
    rotate_left
    · simp only [go_sem, List.getElem?_toArray, Nat.reduceBEq, Nat.reduceAdd, Nat.reduceSub, Nat.reduceMul, Nat.reduceLT, Nat.reduceLeDiff, Nat.reduceEqDiff, Nat.succ_ne_zero, reduceIte, k1, k2, k3]
      refine CallK.mk _ (by simpa only [go_sem] using iQueryOk_spec t.cols d.q ht.1 hd.2.1) fun _ => ?_
      rcases h7 : queryOk t.cols d.q with _ | _
      · rcases c1 : (d.code == 1) with _ | _
        · rcases c0 : (d.code == 0) with _ | _
          · rcases c4 : (d.code == 4) with _ | _
            · have hok : scanOk t d = false := by simp only [scanOk, c0, c4, c1]; rfl
              have hn : applyR t d = none := by simp only [applyR, hdone, k1, k2, k3, hok]; rfl
              rw [applyT_no hn, hn]
              simp only [go_sem, List.getElem?_toArray, Nat.reduceBEq, Nat.reduceAdd, Nat.reduceSub, Nat.reduceMul, Nat.reduceLT, Nat.reduceLeDiff, Nat.reduceEqDiff, Nat.succ_ne_zero, reduceIte, k1, k2, k3, c1, c0, c4, h7, Option.isSome_some, Option.isSome_none, nr_int, nr_Row]
              try simp [OwnL, pureC]
            · have hok : scanOk t d = !queryOk t.cols d.q := by simp only [scanOk, c0, c4]; rfl
              rw [h7] at hok
              have hn : applyR t d = some (t) := by simp only [applyR, hdone, k1, k2, k3, hok, Bool.not_false]; rfl
              rw [applyT_yes hn, hn]
              simp only [go_sem, List.getElem?_toArray, Nat.reduceBEq, Nat.reduceAdd, Nat.reduceSub, Nat.reduceMul, Nat.reduceLT, Nat.reduceLeDiff, Nat.reduceEqDiff, Nat.succ_ne_zero, reduceIte, k1, k2, k3, c1, c0, c4, h7, Bool.not_false, Option.isSome_some, Option.isSome_none, nr_int, nr_Row]
              try simp [OwnL, pureC]
          · have hok : scanOk t d = queryOk t.cols d.q := by simp only [scanOk, c0]; rfl
            rw [h7] at hok
            have hn : applyR t d = none := by simp only [applyR, hdone, k1, k2, k3, hok]; rfl
            rw [applyT_no hn, hn]
            simp only [go_sem, List.getElem?_toArray, Nat.reduceBEq, Nat.reduceAdd, Nat.reduceSub, Nat.reduceMul, Nat.reduceLT, Nat.reduceLeDiff, Nat.reduceEqDiff, Nat.succ_ne_zero, reduceIte, k1, k2, k3, c1, c0, h7, Option.isSome_some, Option.isSome_none, nr_int, nr_Row]
            try simp [OwnL, pureC]
        · have c0 : (d.code == 0) = false := by simp at c1 ⊢; omega
          have c4 : (d.code == 4) = false := by simp at c1 ⊢; omega
          have hok : scanOk t d = (queryOk t.cols d.q && sameRes d.res (answer d.q t.l)) := by simp only [scanOk, c0, c4, c1]; rfl
          rw [h7] at hok
          have hn : applyR t d = none := by simp only [applyR, hdone, k1, k2, k3, hok, Bool.false_and]; rfl
          rw [applyT_no hn, hn]
          simp only [go_sem, List.getElem?_toArray, Nat.reduceBEq, Nat.reduceAdd, Nat.reduceSub, Nat.reduceMul, Nat.reduceLT, Nat.reduceLeDiff, Nat.reduceEqDiff, Nat.succ_ne_zero, reduceIte, k1, k2, k3, c1, h7, Option.isSome_some, Option.isSome_none, nr_int, nr_Row]
          refine DrawK.mk ?_
          simp only [go_sem, List.getElem?_toArray, Nat.reduceBEq, Nat.reduceAdd, Nat.reduceSub, Nat.reduceMul, Nat.reduceLT, Nat.reduceLeDiff, Nat.reduceEqDiff, Nat.succ_ne_zero, reduceIte, k1, k2, k3, c1, h7, Option.isSome_some, Option.isSome_none, nr_int, nr_Row]
          try simp [OwnL, pureC]
      · rcases c1 : (d.code == 1) with _ | _
        · rcases c0 : (d.code == 0) with _ | _
          · rcases c4 : (d.code == 4) with _ | _
            · have hok : scanOk t d = false := by simp only [scanOk, c0, c4, c1]; rfl
              have hn : applyR t d = none := by simp only [applyR, hdone, k1, k2, k3, hok]; rfl
              rw [applyT_no hn, hn]
              simp only [go_sem, List.getElem?_toArray, Nat.reduceBEq, Nat.reduceAdd, Nat.reduceSub, Nat.reduceMul, Nat.reduceLT, Nat.reduceLeDiff, Nat.reduceEqDiff, Nat.succ_ne_zero, reduceIte, k1, k2, k3, c1, c0, c4, h7, Option.isSome_some, Option.isSome_none, nr_int, nr_Row]
              try simp [OwnL, pureC]
            · have hok : scanOk t d = !queryOk t.cols d.q := by simp only [scanOk, c0, c4]; rfl
              rw [h7] at hok
              have hn : applyR t d = none := by simp only [applyR, hdone, k1, k2, k3, hok, Bool.not_true]; rfl
              rw [applyT_no hn, hn]
              simp only [go_sem, List.getElem?_toArray, Nat.reduceBEq, Nat.reduceAdd, Nat.reduceSub, Nat.reduceMul, Nat.reduceLT, Nat.reduceLeDiff, Nat.reduceEqDiff, Nat.succ_ne_zero, reduceIte, k1, k2, k3, c1, c0, c4, h7, Bool.not_true, Option.isSome_some, Option.isSome_none, nr_int, nr_Row]
              try simp [OwnL, pureC]
          · have hok : scanOk t d = queryOk t.cols d.q := by simp only [scanOk, c0]; rfl
            rw [h7] at hok
            have hn : applyR t d = some (t) := by simp only [applyR, hdone, k1, k2, k3, hok]; rfl
            rw [applyT_yes hn, hn]
            simp only [go_sem, List.getElem?_toArray, Nat.reduceBEq, Nat.reduceAdd, Nat.reduceSub, Nat.reduceMul, Nat.reduceLT, Nat.reduceLeDiff, Nat.reduceEqDiff, Nat.succ_ne_zero, reduceIte, k1, k2, k3, c1, c0, h7, Option.isSome_some, Option.isSome_none, nr_int, nr_Row]
            try simp [OwnL, pureC]
        · have c0 : (d.code == 0) = false := by simp at c1 ⊢; omega
          have c4 : (d.code == 4) = false := by simp at c1 ⊢; omega
          have hok : scanOk t d = (queryOk t.cols d.q && sameRes d.res (answer d.q t.l)) := by simp only [scanOk, c0, c4, c1]; rfl
          rw [h7] at hok
          simp only [go_sem, List.getElem?_toArray, Nat.reduceBEq, Nat.reduceAdd, Nat.reduceSub, Nat.reduceMul, Nat.reduceLT, Nat.reduceLeDiff, Nat.reduceEqDiff, Nat.succ_ne_zero, reduceIte, k1, k2, k3, c1, h7]
          refine DrawK.mk ?_
          simp only [go_sem, List.getElem?_toArray, Nat.reduceBEq, Nat.reduceAdd, Nat.reduceSub, Nat.reduceMul, Nat.reduceLT, Nat.reduceLeDiff, Nat.reduceEqDiff, Nat.succ_ne_zero, reduceIte, k1, k2, k3, c1, h7]
          refine CallF.mk _ (by simpa only [go_sem] using answer_frz (iAnswer_spec d.q t.l hd.2.1 ht.2)) ?_
          simp only [go_sem, List.getElem?_toArray, Nat.reduceBEq, Nat.reduceAdd, Nat.reduceSub, Nat.reduceMul, Nat.reduceLT, Nat.reduceLeDiff, Nat.reduceEqDiff, Nat.succ_ne_zero, reduceIte, k1, k2, k3, c1, h7]
          refine CallF.mk _ (by simpa only [go_sem] using iSameRes_spec d.res (answer d.q t.l) hd.2.2.1 (answer_fit d.q t.l hd.2.1.2 ht.2)) ?_
          rw [Bool.true_and] at hok
          rcases h8 : sameRes d.res (answer d.q t.l) with _ | _
          · rw [h8] at hok
            have hn : applyR t d = none := by simp only [applyR, hdone, k1, k2, k3, hok]; rfl
            rw [applyT_no hn, hn]
            simp only [go_sem, List.getElem?_toArray, Nat.reduceBEq, Nat.reduceAdd, Nat.reduceSub, Nat.reduceMul, Nat.reduceLT, Nat.reduceLeDiff, Nat.reduceEqDiff, Nat.succ_ne_zero, reduceIte, k1, k2, k3, c1, h7, h8, Option.isSome_some, Option.isSome_none, nr_int, nr_Row]
            try simp [OwnL, pureC]
          · rw [h8] at hok
            have hn : applyR t d = some t := by simp only [applyR, hdone, k1, k2, k3, hok]; rfl
            rw [applyT_yes hn, hn]
            simp only [go_sem, List.getElem?_toArray, Nat.reduceBEq, Nat.reduceAdd, Nat.reduceSub, Nat.reduceMul, Nat.reduceLT, Nat.reduceLeDiff, Nat.reduceEqDiff, Nat.succ_ne_zero, reduceIte, k1, k2, k3, c1, h7, h8, Option.isSome_some, Option.isSome_none, nr_int, nr_Row]
            try simp [OwnL, pureC]
    have k4 : (d.op == 4) = true := by
      simp only [deedOk] at h2
      rcases h8 : inR d.op 1 4 with _ | _
      · rw [h8] at h2; simp at h2
      · simp [inR] at h8 k1 k2 k3 ⊢; omega
    have hn : applyR t d = some (t) := by simp only [applyR, hdone, k1, k2, k3]; rfl
    rw [applyT_yes hn, hn]
    simp only [go_sem, List.getElem?_toArray, Nat.reduceBEq, Nat.reduceAdd, Nat.reduceSub, Nat.reduceMul, Nat.reduceLT, Nat.reduceLeDiff, Nat.reduceEqDiff, Nat.succ_ne_zero, reduceIte, k1, k2, k3, k4, Option.isSome_some, Option.isSome_none, nr_int, nr_Row]
    try simp [OwnL, pureC]

end Go.Proofs.YtepjgnlinjlehaaGreat
