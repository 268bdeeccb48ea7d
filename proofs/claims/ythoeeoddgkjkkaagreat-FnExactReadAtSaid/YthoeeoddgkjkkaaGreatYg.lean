/- Walks: lists of numbers written, plain columns. -/
import Derived.Test.YthoeeoddgkjkkaaGreatYf
import Derived.Test.YthoeeoddgkjkkaaGreatWe
namespace Go.Proofs.YthoeeoddgkjkkaaGreat
set_option linter.unusedSimpArgs false
set_option linter.unusedVariables false
open Go.Vm
set_option maxHeartbeats 2000000
set_option maxRecDepth 10000
theorem xB:E5 []=true:=rfl
attribute [go_sem] xB Df KR Eh Bz Bj Bl wz
theorem JA:∀ {b:List Int},Vd (b.map byteC)→AY b
 | [],_=>by simp[AY]
 | c::b,h=>by
  simp only[List.map_cons,Vd,Jl,O4,YC] at h
  intro x hx
  rcases List.mem_cons.1 hx with rfl | hx
  ·have:=h.1.1
   simp only[Kt,Lit.wf,Bool.and_eq_true,decide_eq_true_eq] at this
   simp[IntKind.min,IntKind.max,IntKind.bits,IntKind.signed] at this
   unfold isByte
   omega
  ·exact JA h.2 x hx
theorem jm {a b:List Int} (ha:AY a) (hb:AY b):(strOfNums a=strOfNums b)↔a=b:=by
 constructor
 ·intro h
  rw[← Xb ha,← Xb hb,h]
 ·rintro rfl; rfl
theorem Bv {l:List DVal} (h:typeOf l≠0):1≤l.length∧l.length≤64∧∀ v∈l,BD v=true∧v.ty=typeOf l:=by
 cases l with
 | nil=>exact absurd rfl h
 | cons v r =>
  have e:typeOf (v::r)=if(v::r).length≤64∧∀ x∈(v::r),BD x=true∧x.ty=v.ty then v.ty else 0:=rfl
  rw[e] at h ⊢
  split at h
  ·rename_i h1
   rw[if_pos h1]
   exact⟨by simp,h1.1,h1.2⟩
  ·exact absurd rfl h
theorem Ci (n:Int):(Dh n).length≤5:=Sm 4 _
theorem Pq {v:DVal} (h:BD v=true):(PU v).length≤7:=by
 unfold PU
 split
 ·have:=Ci v.n; omega
 ·rename_i h3
  have:v.s.size≤6:=by
   simp only[BD,if_neg h3,Bool.and_eq_true,decide_eq_true_eq] at h
   exact h.1.2
  simp[mX]; omega
theorem Hf:∀ {l:List DVal},(∀ v∈l,BD v=true)→(Gw l).length≤7*l.length
 | [],_=>by simp[Gw]
 | v::l,h=>by
  have h1:=Pq (h v (by simp))
  have h2:=Hf fun x hx=>h x (List.mem_cons_of_mem v hx)
  simp only[Gw,List.map_cons,List.flatten_cons,List.length_append,List.length_cons] at h1 h2 ⊢
  omega
theorem NH {v:DVal} (h:BD v=true):VF v=PU v:=by simp only[VF,h,if_true]
theorem G7 {n:Int} (h:C9 n=true):SA n=Dh n:=by simp only[SA,h,if_true]
theorem KW {l:List DVal} {i:Nat} (h:i<l.length):Gw (l.take (i+1))=Gw (l.take i)++PU l[i]:=by
 rw[List.take_succ_eq_append_getElem h]
 simp only[Gw,List.map_append,List.flatten_append,List.map_cons,List.map_nil,List.flatten_cons,List.flatten_nil,List.append_nil]
theorem dX {l:List Int} {i:Nat} (h:i<l.length):((l.take (i+1)).map Dh).flatten=((l.take i).map Dh).flatten++Dh l[i]:=by
 rw[List.take_succ_eq_append_getElem h]
 simp only[List.map_append,List.flatten_append,List.map_cons,List.map_nil,List.flatten_cons,List.flatten_nil,List.append_nil]
theorem Qc:∀ l:List Int,((l.map Dh).flatten).length≤5*l.length
 | []=>by simp
 | n::l=>by
  have h1:=Ci n
  have h2:=Qc l
  simp only[List.map_cons,List.flatten_cons,List.length_append,List.length_cons]
  omega
theorem VG (b:List Int) (l:List Int) (hl:l.length≤100000) (hb:b.length≤100000) (hn:∀ n∈l,C9 n=true):Ctr Tryz.prog 195 [.c (.sl (b.map byteC)),.c (.sl (l.map intC))] [.own 5 1 ((b++Kv l).map byteC) true]:=by
 refine Ctr.mk Tryz.call195 Tryz.func195 rfl mixed Tryz.ntmps195 Tryz.results195 (by kernel_rfl) rfl fun hw=>?_
 have h1:decide ((l.length:Int)>1000000000)=false:=by simp; omega
 simp only[go_sem]
 refine CallK.mk _ (FC b (by omega)) fun _=>?_
 simp only[go_sem,h1]
 refine LoopU.mk 1 (A:=Nat) (fun x=>[(18,.c (.v (.int .i64 (x))))]) (fun _=>[⟨5,1,b.map byteC,true,true⟩]) (fun x=>x≤l.length) (fun x=>l.length-x) 0 ⟨⟨rfl,all1 (Ad (Bz _))⟩,rfl,Nat.zero_le _⟩ ?_
 rintro i hi
 simp only[go_sem]
 refine cndC.mk (fun h=>?_) (fun h=>?_)
 ·have hi':i<l.length:=by simp at h; omega
  have hok:=hn _ (List.getElem_mem hi')
  simp only[go_sem,AA _ hi']
  refine CallK.mk _ (Iu _) fun _=>?_
  simp only[go_sem,hok,wrap_i64 (n:=(i:Int)+1) (by omega) (by omega)]
  exact⟨i+1,⟨rfl,all1 (Ad (Bz _))⟩,rfl,hi',by omega⟩
 ·simp only[go_sem]
  refine CallK.mk _ (EO b _ (by omega)) fun _=>?_
  rw[G7 (by simp[C9,BQ]; omega)]
  simp only[go_sem]
  have hq:=Ci (l.length:Int)
  refine LoopH.mk [11,27,30] (A:=Nat) (fun x=>[(33,.c (.v (.int .i64 (x)))),(5,.c (.ref 0))]) (fun x=>[⟨5,1,(b++Dh l.length++((l.take x).map Dh).flatten).map byteC,true,true⟩]) (fun x=>x≤l.length) (fun x=>l.length-x) 0 (Head.sel [(1,false)] ⟨rfl,rfl,Df _,trivial⟩ (by simp only[List.take_zero,List.map_nil,List.flatten_nil,List.append_nil]; rfl)) (Nat.zero_le _) ?_
  rintro i hi
  simp only[go_sem]
  refine cndC.mk (fun h=>?_) (fun h=>?_)
  ·have hi':i<l.length:=by simp at h; omega
   have hok:=hn _ (List.getElem_mem hi')
   have hq2:=Qc (l.take i)
   rw[List.length_take] at hq2
   simp only[go_sem,AA _ hi',Df]
   refine CallK.mk _ (EO _ _ (by simp only[List.length_append]; omega)) fun _=>?_
   rw[G7 hok]
   simp only[go_sem,wrap_i64 (n:=(i:Int)+1) (by omega) (by omega)]
   exact⟨i+1,Head.sel [(1,false)] ⟨rfl,rfl,Df _,trivial⟩ (by rw[dX hi']; simp; rfl),hi',by omega⟩
  ·have hi':i=l.length:=by simp at h; omega
   subst hi'
   simp only[go_sem,Bz,Kv,List.take_length,List.append_assoc]
   try simp[AU,AC]
theorem JB (l:List DVal) (hl:l.length≤1048576):Ctr Tryz.prog 217 [.c (.sl (l.map DVal.c))] [.own 5 1 ((DK l).map byteC) true]:=by
 refine Ctr.mk Tryz.call217 Tryz.func217 rfl mixed Tryz.ntmps217 Tryz.results217 (by kernel_rfl) rfl fun hw=>?_
 simp only[go_sem]
 refine CallK.mk _ (BP l hl) fun _=>?_
 rcases h1:typeOf l==0 with _ | _
 ·have h1':typeOf l≠0:=by simpa using h1
  obtain⟨q1,q2,q3⟩:=Bv h1'
  simp only[go_sem,h1,DK,h1']
  refine LoopH.mk [6] (A:=Nat) (fun x=>[(13,.c (.v (.int .i64 (x)))),(3,.c (.ref 0))]) (fun x=>[⟨5,1,(Gw (l.take x)).map byteC,true,true⟩]) (fun x=>x≤l.length) (fun x=>l.length-x) 0 (Head.sel [(0,false)] ⟨rfl,rfl,rfl,trivial⟩ rfl) (Nat.zero_le _) ?_
  rintro i hi
  simp only[go_sem]
  refine cndC.mk (fun h=>?_) (fun h=>?_)
  ·have hi':i<l.length:=by simp at h; omega
   have hok:=(q3 _ (List.getElem_mem hi')).1
   have hq2:=Hf (l:=l.take i) fun v hv=>(q3 v (List.mem_of_mem_take hv)).1
   rw[List.length_take] at hq2
   simp only[go_sem,AA _ hi',Df]
   refine CallK.mk _ (KT _ _ (by omega)) fun _=>?_
   rw[NH hok,← KW hi']
   simp only[go_sem,wrap_i64 (n:=(i:Int)+1) (by omega) (by omega)]
   exact⟨i+1,Head.sel [(2,false)] ⟨rfl,rfl,Df _,trivial⟩ rfl,hi',by omega⟩
  ·have hi':i=l.length:=by simp at h; omega
   subst hi'
   simp only[go_sem,Bz,List.take_length,Bool.false_eq_true,if_false]
   try simp[AU,AC]
 ·have h1':typeOf l=0:=by simpa using h1
  have e:DK l = []:=if_pos h1'
  rw[e]
  simp only[go_sem,h1]
  try simp[AU,AC,CY]
theorem MC (l:List DVal) (hl:l.length≤1048576):Ctr Tryz.prog 247 [.c (.sl (l.map DVal.c))] [.own 5 1 ((DK l).map byteC) true]:=by
 refine Ctr.mk Tryz.call247 Tryz.func247 rfl mixed Tryz.ntmps247 Tryz.results247 (by kernel_rfl) rfl fun hw=>?_
 simp only[go_sem]
 refine CallK.mk _ (DU l hl) fun _=>?_
 rcases h1:typeOf l==0 with _ | _
 ·have h1':typeOf l≠0:=by simpa using h1
  obtain⟨q1,q2,q3⟩:=Bv h1'
  simp only[go_sem,h1,DK,h1']
  refine LoopH.mk [5] (A:=Nat) (fun x=>[(4,.c (.v (.int .i64 (x)))),(3,.c (.ref 0))]) (fun x=>[⟨5,1,(Gw (l.take x)).map byteC,true,true⟩]) (fun x=>x≤l.length) (fun x=>l.length-x) 0 (Head.sel [(0,false)] ⟨rfl,rfl,rfl,trivial⟩ rfl) (Nat.zero_le _) ?_
  rintro i hi
  simp only[go_sem]
  refine cndC.mk (fun h=>?_) (fun h=>?_)
  ·have hi':i<l.length:=by simp at h; omega
   have hok:=(q3 _ (List.getElem_mem hi')).1
   have hq2:=Hf (l:=l.take i) fun v hv=>(q3 v (List.mem_of_mem_take hv)).1
   rw[List.length_take] at hq2
   simp only[go_sem,AA _ hi',Df]
   refine CallK.mk _ (KU _ _ (by omega)) fun _=>?_
   rw[NH hok,← KW hi']
   simp only[go_sem,wrap_i64 (n:=(i:Int)+1) (by omega) (by omega)]
   exact⟨i+1,Head.sel [(1,false)] ⟨rfl,rfl,Df _,trivial⟩ rfl,hi',by omega⟩
  ·have hi':i=l.length:=by simp at h; omega
   subst hi'
   simp only[go_sem,Bz,List.take_length,Bool.false_eq_true,if_false]
   try simp[AU,AC]
 ·have h1':typeOf l=0:=by simpa using h1
  have e:DK l = []:=if_pos h1'
  rw[e]
  simp only[go_sem,h1]
  try simp[AU,AC,CY]
def nH:Option (List DVal×Nat)→List Res
 | some (l,q)=>[.own 72 3 (l.map DVal.c) true,.val (.c (.v (.int .i64 ((q:Int))))),.val (.c (.v (.bool (true))))]
 | none=>[.own 72 3 [] true,.val (.c (.v (.int .i64 (0)))),.val (.c (.v (.bool (false))))]
theorem EQ (out:List DVal) (v:DVal):(out ++ [v]).map DVal.c=out.map DVal.c ++ [v.c]:=by simp
theorem Ib (l:List DVal) (n:DVal):E5 (l.map DVal.c ++ [n.c])=true:=by rw[← EQ]; exact KR _
theorem Pv (b:List Int) (p:Nat) (ty k:Int) (hb:AY b) (hl:b.length≤1048576) (hk:k≤64):Ctr Tryz.prog 216 [.c (.sl (b.map byteC)),.c (.v (.int .i64 ((p:Int)))),.c (.v (.int .i64 (ty))),.c (.v (.int .i64 (k)))] (nH (BJ b ty k.toNat p)):=by
 refine Ctr.mk Tryz.call216 Tryz.func216 rfl mixed Tryz.ntmps216 Tryz.results216 (by kernel_rfl) rfl fun hw=>?_
 simp only[go_sem]
 refine LoopH.mk [16] (A:=Nat×Nat×List DVal) (fun x=>[(12,.c (.v (.int .i64 (x.1)))),(11,.c (.ref 0)),(1,.c (.v (.int .i64 ((x.2.1:Int)))))]) (fun x=>[⟨72,3,x.2.2.map DVal.c,true,true⟩]) (fun x=>x.1≤k.toNat∧x.2.2.length=x.1∧(BJ b ty (k.toNat-x.1) x.2.1).map (fun y=>(x.2.2++y.1,y.2))=BJ b ty k.toNat p) (fun x=>k.toNat-x.1) (0,p,[]) (Head.sel [(0,false)] ⟨rfl,rfl,rfl,trivial⟩ rfl) ⟨Nat.zero_le _,rfl,by simp⟩ ?_
 rintro⟨i,q',l⟩ ⟨hi,hll,hb2⟩
 dsimp only at hi hll hb2
 simp only[go_sem]
 refine cndC.mk (fun h=>?_) (fun h=>?_)
 ·have hi':i<k.toNat:=by simp at h; omega
  rw[show k.toNat-i=(k.toNat-(i+1))+1 by omega,BJ] at hb2
  have hg2:=Po b q' ty hb hl
  simp only[go_sem]
  rcases h3:D6 b q' ty with _ | ⟨n,q2⟩<;>rw[h3] at hg2 hb2<;>simp only[Ua] at hg2
  ·refine CallK.mk _ hg2 fun _=>?_
   simp only[Option.map_none] at hb2
   rw[← hb2]
   simp only[go_sem,nH]
   try simp[CY]
  ·refine CallK.mk _ hg2 fun _=>?_
   have hl2:l.length+1≤2147483648:=by omega
   simp only[go_sem,hl2,wrap_i64 (n:=(i:Int)+1) (by omega) (by omega)]
   exact⟨(i+1,q2,l ++ [n]),Head.sel [(3,false)] ⟨rfl,rfl,Ib l n,trivial⟩ (by rw[EQ]; rfl),⟨hi',by simp; omega,by rw[← hb2,Option.map_map]; congr 1; funext y; simp⟩,by simp only; omega⟩
 ·have hi':i=k.toNat:=by simp at h; omega
  subst hi'
  rw[Nat.sub_self,BJ] at hb2
  simp only[Option.map_some,List.append_nil] at hb2
  rw[← hb2]
  simp only[go_sem,nH,Bl]
  try simp[AU,AC]
def CJ:Option (List DVal)→List Res
 | some l=>[.val (.c (.sl (l.map DVal.c))),.val (.c (.v (.bool (true))))]
 | none=>[.val (.c (.sl [])),.val (.c (.v (.bool (false))))]
theorem gp {a b:List Int} (ha:AY a) (hb:AY b):((strOfNums a).toList==(strOfNums b).toList)=decide (a=b):=by
 rw[Bool.eq_iff_iff,beq_iff_eq,decide_eq_true_eq,← jm ha hb]
 exact⟨dO,fun h=>by rw[h]⟩
theorem IP (a b:List Int):Ctr Tryz.prog 162 [.c (.sl (a.map byteC)),.c (.sl (b.map byteC))] [.val (.c (.v (.bool (decide (a=b)))))]:=by
 refine Ctr.mk Tryz.call162 Tryz.func162 rfl mixed Tryz.ntmps162 Tryz.results162 (by kernel_rfl) rfl fun hw=>?_
 have h1:=JA hw.1.2
 have h2:=JA hw.2.1.2
 simp only[go_sem,I_,gp h1 h2]
theorem Ff (a b:List Int):Ctr Tryz.prog 181 [.c (.sl (a.map byteC)),.c (.sl (b.map byteC))] [.val (.c (.v (.bool (decide (a=b)))))]:=by
 refine Ctr.mk Tryz.call181 Tryz.func181 rfl mixed Tryz.ntmps181 Tryz.results181 (by kernel_rfl) rfl fun hw=>?_
 have h1:=JA hw.1.2
 have h2:=JA hw.2.1.2
 simp only[go_sem,I_,gp h1 h2]
theorem BL (b:List Int) (k:Int) (l:List DVal) (e:List Int):Ctr Tryz.prog 192 [.c (.sl (b.map byteC)),.c (.v (.int .i64 (k))),.c (.sl (l.map DVal.c)),.c (.sl (e.map byteC))] (CJ (again b k l e)):=by
 refine Ctr.mk Tryz.call192 Tryz.func192 rfl mixed Tryz.ntmps192 Tryz.results192 (by kernel_rfl) rfl fun hw=>?_
 simp only[go_sem]
 refine CallK.mk _ (BK _ _ _) fun _=>?_
 rcases h1:BQ k 1 64 with _ | _
 ·have:again b k l e=none:=if_neg (by simp[BQ] at h1; omega)
  simp only[go_sem,h1,this,CJ]
 have h1':1≤k∧k≤64:=by simp[BQ] at h1; omega
 simp only[go_sem,h1]
 rcases h2:(l.length:Int) != k with _ | _
 ·have h2':(l.length:Int)=k:=by simpa using h2
  simp only[go_sem,h2]
  refine CallK.mk _ (IP b e) fun _=>?_
  rcases h3:decide (b=e) with _ | _
  ·have:again b k l e=none:=if_neg (fun q=>by simp at h3; exact h3 q.2.2.2)
   simp only[go_sem,h3,this,CJ]
  ·have:again b k l e=some l:=if_pos ⟨h1'.1,h1'.2,h2',by simpa using h3⟩
   simp only[go_sem,h3,this,CJ]
 ·have:again b k l e=none:=if_neg (by simp at h2; omega)
  simp only[go_sem,h2,this,CJ]
theorem Ub (b:List Int) (ty k:Int) (hb:AY b) (hl:b.length≤1048576):Ctr Tryz.prog 176 [.c (.sl (b.map byteC)),.c (.v (.int .i64 (ty))),.c (.v (.int .i64 (k)))] (CJ (EK b ty k)):=by
 refine Ctr.mk Tryz.call176 Tryz.func176 rfl mixed Tryz.ntmps176 Tryz.results176 (by kernel_rfl) rfl fun hw=>?_
 simp only[go_sem]
 refine CallK.mk _ (Am _ _ _) fun _=>?_
 rcases h2:BQ k 1 64 with _ | _
 ·have:EK b ty k=none:=if_neg (by simp[BQ] at h2; omega)
  simp only[go_sem,h2,this,CJ]
  try simp[CY]
 have h2':1≤k∧k≤64:=by simp[BQ] at h2; omega
 have hall:EK b ty k=match BJ b ty k.toNat 0 with
  | none=>none
  | some (l,q)=>if q=b.length then some l else none:=if_pos h2'
 simp only[go_sem,h2]
 refine LoopH.mk [14] (A:=Nat×Nat×List DVal) (fun x=>[(10,.c (.v (.int .i64 (x.1)))),(8,.c (.ref 0)),(9,.c (.v (.int .i64 ((x.2.1:Int)))))]) (fun x=>[⟨72,3,x.2.2.map DVal.c,true,true⟩]) (fun x=>x.1≤k.toNat∧x.2.2.length=x.1∧(BJ b ty (k.toNat-x.1) x.2.1).map (fun y=>(x.2.2++y.1,y.2))=BJ b ty k.toNat 0) (fun x=>k.toNat-x.1) (0,0,[]) (Head.sel [(0,false)] ⟨rfl,rfl,rfl,trivial⟩ rfl) ⟨Nat.zero_le _,rfl,by simp⟩ ?_
 rintro⟨i,q',l⟩ ⟨hi,hll,hb2⟩
 dsimp only at hi hll hb2
 simp only[go_sem]
 refine cndC.mk (fun h=>?_) (fun h=>?_)
 ·have hi':i<k.toNat:=by simp at h; omega
  rw[show k.toNat-i=(k.toNat-(i+1))+1 by omega,BJ] at hb2
  have hg2:=Ia b q' ty hb hl
  simp only[go_sem]
  rcases h3:D6 b q' ty with _ | ⟨n,q2⟩<;>rw[h3] at hg2 hb2<;>simp only[Ua] at hg2
  ·refine CallK.mk _ hg2 fun _=>?_
   simp only[Option.map_none] at hb2
   rw[hall,← hb2]
   simp only[go_sem,CJ]
   try simp[CY]
  ·refine CallK.mk _ hg2 fun _=>?_
   have hl2:l.length+1≤2147483648:=by omega
   simp only[go_sem,hl2,wrap_i64 (n:=(i:Int)+1) (by omega) (by omega)]
   exact⟨(i+1,q2,l ++ [n]),Head.sel [(3,false)] ⟨rfl,rfl,Ib l n,trivial⟩ (by rw[EQ]; rfl),⟨hi',by simp; omega,by rw[← hb2,Option.map_map]; congr 1; funext y; simp⟩,by simp only; omega⟩
 ·have hi':i=k.toNat:=by simp at h; omega
  subst hi'
  rw[Nat.sub_self,BJ] at hb2
  simp only[Option.map_some,List.append_nil] at hb2
  rw[hall,← hb2]
  rcases h4:((q':Int) != (b.length:Int)) with _ | _
  ·have h4':q'=b.length:=by simp at h4; omega
   simp only[go_sem,h4,if_pos h4',CJ]
   try simp[AU,AC]
  ·have h4':¬ q'=b.length:=by simp at h4; omega
   simp only[go_sem,h4,if_neg h4',CJ]
   try simp[CY]
theorem Uc (b:List Int) (ty k:Int) (hb:AY b) (hl:b.length≤1048576):Ctr Tryz.prog 187 [.c (.sl (b.map byteC)),.c (.v (.int .i64 (ty))),.c (.v (.int .i64 (k)))] (CJ (EK b ty k)):=by
 rw[← RS hb]
 refine Ctr.mk Tryz.call187 Tryz.func187 rfl mixed Tryz.ntmps187 Tryz.results187 (by kernel_rfl) rfl fun hw=>?_
 simp only[go_sem]
 refine CallK.mk _ (BK _ _ _) fun _=>?_
 rcases h2:BQ k 1 64 with _ | _
 ·have:Ju b ty k=none:=if_neg (by simp[BQ] at h2; omega)
  simp only[go_sem,h2,this,CJ]
  try simp[CY]
 have h2':1≤k∧k≤64:=by simp[BQ] at h2; omega
 simp only[go_sem,h2]
 have hg:=Pv b 0 ty k hb hl h2'.2
 have hall:Ju b ty k=again b k (((BJ b ty k.toNat 0).map Prod.fst).getD []) (DK (((BJ b ty k.toNat 0).map Prod.fst).getD [])):=if_pos h2'
 rw[hall]
 rcases h3:BJ b ty k.toNat 0 with _ | ⟨l,q⟩<;>rw[h3] at hg<;>simp only[nH] at hg<;>simp only[Option.map_none,Option.map_some,Option.getD_none,Option.getD_some]
 ·refine CallK.mk _ hg fun _=>?_
  simp only[go_sem]
  refine CallK.mk _ (JB [] (by simp)) fun _=>?_
  simp only[go_sem]
  refine CallK.mk _ (BL b k [] (DK [])) fun _=>?_
  rcases h4:again b k [] (DK []) with _ | l'<;>simp only[go_sem,CJ]
 ·refine CallK.mk _ hg fun _=>?_
  simp only[go_sem]
  have hlen:=(GZ hb _ _ _ _ (Nat.zero_le _) h3).2.2.1
  refine CallK.mk _ (JB l (by omega)) fun _=>?_
  simp only[go_sem]
  refine CallK.mk _ (BL b k l (DK l)) fun _=>?_
  rcases h4:again b k l (DK l) with _ | l'<;>simp only[go_sem,CJ]
end Go.Proofs.YthoeeoddgkjkkaaGreat
