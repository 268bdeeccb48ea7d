/- Walks: the moments. -/
import Derived.Test.YthoeeoddgkjkkaaGreatXf
namespace Go.Proofs.YthoeeoddgkjkkaaGreat
set_option linter.unusedSimpArgs false
set_option linter.unusedVariables false
open Go.Vm
set_option maxHeartbeats 2000000
set_option maxRecDepth 10000
def desc (t : Int) (k : Nat) : List Int:=(List.range k).map fun (i : Nat)=>t - (i : Int)
theorem desc_len (t : Int) (k : Nat) : (desc t k).length = k:=by simp [desc]
theorem desc_succ (t : Int) (k : Nat) : desc t (k + 1) = desc t k ++ [t - (k : Int)]:=by simp [desc,List.range_succ]
def momK (w : DWorld) : Nat:=min 40 ((w.t - horizon w).toNat + 1)
def moments (w : DWorld) : List Int:=(desc w.t (momK w)).reverse
theorem mom_full {w : DWorld} (h : horizon w ≤ w.t - (40 : Nat)) : moments w = (desc w.t 40).reverse:=by
 have : momK w = 40:=by unfold momK; omega
 unfold moments; rw [this]
theorem mom_last {w : DWorld} {k : Nat} (hk : k < 40) (h : w.t - (k : Int) = horizon w) : moments w = (desc w.t (k + 1)).reverse:=by
 have : momK w = k + 1:=by unfold momK; omega
 unfold moments; rw [this]
theorem iMoments_spec (w : DWorld) (hf : fitWorld w) : Ctr Tryz.prog 70 [.agg w.c] [.own 3 1 ((moments w).map intC) true]:=by
 refine Ctr.mk Tryz.call70 Tryz.func70 rfl mixed Tryz.ntmps70 Tryz.results70 (by kernel_rfl) rfl fun hw=>?_
 have hle:=horizon_le w
 have hwt:=i64_le (hw.1.2.2.2.2.1)
 simp only [go_sem]
 refine LoopH.mk [5] (A:=Nat × Int) (fun x=>[(4,.c (.v (.int .i64 (x.2)))),(3,.c (.ref 1))]) (fun x=>[⟨46,14,[w.c],true,true⟩,⟨3,1,(desc w.t x.1).map intC,true,true⟩]) (fun x=>x.1 ≤ 40 ∧ x.2 = w.t - (x.1 : Int) ∧ horizon w ≤ x.2) (fun x=>41 - x.1) (0,w.t) (Head.sel [(0,false),(1,false)] ⟨rfl,rfl,rfl,rfl,trivial⟩ rfl) ⟨Nat.zero_le _,by simp,hle⟩ ?_
 rintro ⟨k,ts⟩ ⟨hk,hts,hge⟩
 dsimp only at hk hts hge
 have e1 : decide (ts ≥ horizon w) = true:=by simpa using hge
 have rev:=fun n : Nat=>reverse_spec (desc w.t n)
 simp only [go_sem]
 refine CallK.mk _ (by simpa only [go_sem] using iHorizon_spec w hf) fun hwh=>?_
 have hlo:=i64_ge hwh.1
 simp only [go_sem,e1,desc_len]
 rcases h40 : decide ((k : Int) < 40) with _ | _
 ·have hk40 : k = 40:=by simp at h40; omega
  subst hk40
  simp only [go_sem]
  refine MutK.mk false (zs:=[.ref 1]) (cl:=[.ow 3 1 ((desc w.t 40).map intC)]) (rev 40 (by rw [desc_len]; omega)) rfl ⟨rfl,rfl,rfl,rfl,nr_int _,by simp,trivial⟩ rfl (.inr rfl) fun cl' rs hM=>?_
  obtain ⟨rfl,rfl⟩:=hM
  refine ⟨⟨rfl,⟨rfl,rfl⟩,trivial⟩, ?_⟩
  rw [mom_full (by rw [← hts]; exact hge)]
  simp only [go_sem]
  try simp [OwnL,pureC]
 ·have hk' : k < 40:=by simp at h40; omega
  have hk2 : k + 1 ≤ 2147483648:=by omega
  have hd : (desc w.t k).map intC ++ [[Cl.v (.int .i64 ts)]] = (desc w.t (k + 1)).map intC:=by rw [desc_succ,hts,List.map_append]; rfl
  simp only [go_sem,desc_len,hk2,hd]
  refine CallK.mk _ (by simpa only [go_sem] using iHorizon_spec w hf) fun _=>?_
  rcases heq : ts == horizon w with _ | _
  ·have hne : ts ≠ horizon w:=by simpa using heq
   have hwr : IntKind.i64.wrap (ts - 1) = ts - 1:=wrap_i64 (by omega) (by omega)
   simp only [go_sem,heq,hwr]
   exact ⟨(k + 1,ts - 1),Head.sel [(0,false),(3,false)] ⟨rfl,rfl,rfl,pe_int _,trivial⟩ rfl,⟨by omega,by simp only; omega,by simp only; omega⟩,by simp only; omega⟩
  ·have heq' : ts = horizon w:=by simpa using heq
   simp only [go_sem,heq,hd]
   refine MutK.mk false (zs:=[.ref 3]) (cl:=[.ow 3 1 ((desc w.t (k + 1)).map intC)]) (rev (k + 1) (by rw [desc_len]; omega)) rfl ⟨rfl,rfl,rfl,rfl,nr_int _,by simp,trivial⟩ rfl (.inr rfl) fun cl' rs hM=>?_
   obtain ⟨rfl,rfl⟩:=hM
   refine ⟨⟨rfl,⟨rfl,rfl⟩,trivial⟩, ?_⟩
   rw [mom_last hk' (by rw [← hts]; exact heq')]
   simp only [go_sem]
   try simp [OwnL,pureC]
theorem intRows (l : List Int) : appRows 1 (l.map intC) = true:=List.all_eq_true.2 fun r hr=>by
 obtain ⟨x,_,rfl⟩:=List.mem_map.1 hr
 rfl
theorem rev_succ (t : Int) (k : Nat) : (desc t (k + 1)).reverse = (t - (k : Int)) :: (desc t k).reverse:=by rw [desc_succ,List.reverse_append]; rfl
theorem sMoments_spec (w : DWorld) (hf : fitWorld w) : Ctr Tryz.prog 68 [.agg w.c] [.own 3 1 ((moments w).map intC) true]:=by
 refine Ctr.mk Tryz.call68 Tryz.func68 rfl mixed Tryz.ntmps68 Tryz.results68 (by kernel_rfl) rfl fun hw=>?_
 have hle:=horizon_le w
 have hwt:=i64_le (hw.1.2.2.2.2.1)
 simp only [go_sem]
 refine CallK.mk _ (by simpa only [go_sem] using sHorizon_spec w hf) fun hwh=>?_
 have hlo:=i64_ge hwh.1
 have e0 : decide (horizon w > w.t) = false:=by simp; omega
 simp only [go_sem,e0]
 refine LoopH.mk [6] (A:=Nat × Int) (fun x=>[(5,.c (.v (.int .i64 (x.2)))),(3,.c (.ref 1))]) (fun x=>[⟨46,14,[w.c],true,true⟩,⟨3,1,((desc w.t x.1).reverse).map intC,true,true⟩]) (fun x=>x.1 ≤ 40 ∧ x.2 = w.t - (x.1 : Int) ∧ horizon w ≤ x.2) (fun x=>41 - x.1) (0,w.t) (Head.sel [(0,false),(1,false)] ⟨rfl,rfl,rfl,rfl,trivial⟩ rfl) ⟨Nat.zero_le _,by simp,hle⟩ ?_
 rintro ⟨k,ts⟩ ⟨hk,hts,hge⟩
 dsimp only at hk hts hge
 simp only [go_sem,List.length_reverse,desc_len]
 rcases h40 : decide ((k : Int) < 40) with _ | _
 ·have hk40 : k = 40:=by simp at h40; omega
  subst hk40
  rw [mom_full (by rw [← hts]; exact hge)]
  simp only [go_sem]
  try simp [OwnL,pureC]
 ·have hk' : k < 40:=by simp at h40; omega
  have hk2 : 1 + k ≤ 2147483648:=by omega
  have hd : [[Cl.v (.int .i64 ts)]] ++ ((desc w.t k).reverse).map intC = ((desc w.t (k + 1)).reverse).map intC:=by rw [rev_succ,hts,List.map_cons]; rfl
  simp only [go_sem,List.length_reverse,desc_len,hk2,hd,intRows]
  rcases heq : ts == horizon w with _ | _
  ·have hne : ts ≠ horizon w:=by simpa using heq
   have hwr : IntKind.i64.wrap (ts - 1) = ts - 1:=wrap_i64 (by omega) (by omega)
   simp only [go_sem,heq,hwr]
   exact ⟨(k + 1,ts - 1),Head.sel [(0,false),(3,false)] ⟨rfl,rfl,rfl,pe_int _,trivial⟩ rfl,⟨by omega,by simp only; omega,by simp only; omega⟩,by simp only; omega⟩
  ·have heq' : ts = horizon w:=by simpa using heq
   rw [mom_last hk' (by rw [← hts]; exact heq')]
   simp only [go_sem,heq,hd]
   try simp [OwnL,pureC]
end Go.Proofs.YthoeeoddgkjkkaaGreat
