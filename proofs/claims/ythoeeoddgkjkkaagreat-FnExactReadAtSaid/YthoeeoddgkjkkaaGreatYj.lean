/- Walks: runs. -/
import Derived.Test.YthoeeoddgkjkkaaGreatYg
namespace Go.Proofs.YthoeeoddgkjkkaaGreat
set_option linter.unusedSimpArgs false
set_option linter.unusedVariables false
open Go.Vm
set_option maxHeartbeats 2000000
set_option maxRecDepth 10000
def Dw (r:DVal×Int):List Cl:=[.v (.int .i64 r.1.ty),.v (.int .i64 r.1.n),.v (.string r.1.s),.v (.int .i64 r.2)]
theorem jo (r:DVal×Int):BX (Dw r)=true:=rfl
theorem Hg (l:List (DVal×Int)):E5 (l.map Dw)=true:=AL jo
def JD:List (DVal×Int)→DVal→List (DVal×Int)
 | [],v=>[(v,1)]
 | [x],v=>if Ik x.1 v=true then [(x.1,x.2+1)] else [x,(v,1)]
 | x::y::r,v=>x::JD (y::r) v
theorem qE (r:List (DVal×Int)) (v:DVal):JD r v≠ []:=by
 cases r with
 | nil=>simp[JD]
 | cons x r =>
  cases r with
  | nil=>simp only[JD]; split<;>simp
  | cons y r=>simp[JD]
theorem nI {l:List DVal} (h:runs l = []):l = []:=by
 cases l with
 | nil=>rfl
 | cons v l =>
  rw[runs] at h
  split at h
  ·cases h
  ·split at h<;>cases h
theorem NI (v:DVal) (l:List DVal):runs (v::l)=match runs l with
  | []=>[(v,1)]
  | (x,k)::r=>if Ik v x=true then(x,k+1)::r else(v,1)::(x,k)::r:=by rw[runs]; rfl
theorem NJ (v:DVal):∀ l:List DVal,runs (l ++ [v])=JD (runs l) v
 | []=>rfl
 | a::l=>by
  have ih:=NJ v l
  rw[List.cons_append,NI,NI,ih]
  cases hr:runs l with
  | nil =>
   have:=nI hr
   subst this
   simp only[JD]
   by_cases h:Ik a v=true
   ·have:=(Gy a v).1 h
    subst this
    simp[h]
   ·simp[h]
  | cons y r =>
   obtain⟨x,k⟩:=y
   cases r with
   | nil =>
    simp only[JD]
    by_cases h:Ik x v=true<;>by_cases h2:Ik a x=true<;>simp[h,h2,JD]
   | cons z r =>
    rw[JD]
    dsimp only
    by_cases h2:Ik a x=true
    ·rw[if_pos h2,if_pos h2,JD]
    ·rw[if_neg h2,if_neg h2,JD,JD]
theorem Xt (v:DVal):∀ {rs:List (DVal×Int)} {n:Nat} (h:rs.length=n+1),JD rs v=if Ik (rs[n]'(by omega)).1 v=true then rs.set n ((rs[n]'(by omega)).1,(rs[n]'(by omega)).2+1) else rs ++ [(v,1)]
 | [],_,h=>by simp at h
 | [x],n,h=>by
  have:n=0:=by simpa using h.symm
  subst this
  simp only[JD,List.getElem_cons_zero]
  rfl
 | x::y::r,n,h=>by
  obtain⟨m,rfl⟩:∃ m,n=m+1:=⟨n-1,by simp at h; omega⟩
  rw[JD,Xt v (rs:=y::r) (n:=m) (by simpa using h)]
  simp only[List.getElem_cons_succ,List.set_cons_succ,List.cons_append]
  split<;>rfl
theorem Vx (v:DVal):∀ (rs:List (DVal×Int)),∃ q,(JD rs v).getLast?=some (v,q)
 | []=>⟨1,rfl⟩
 | [x]=>by
  simp only[JD]
  split
  ·rename_i h
   exact⟨x.2+1,by rw[(Gy _ _).1 h]; rfl⟩
  ·exact⟨1,rfl⟩
 | x::y::r=>by
  obtain⟨q,hq⟩:=Vx v (y::r)
  refine⟨q, ?_⟩
  rw[JD,List.getLast?_cons,hq]; rfl
theorem IC:∀ {l:List DVal} {r:DVal×Int},r∈runs l→r.1∈l∧1≤r.2∧r.2≤l.length
 | [],_,h=>by cases h
 | v::l,r,h=>by
  rw[NI] at h
  have ih:=fun r=>IC (l:=l) (r:=r)
  cases hr:runs l with
  | nil =>
   simp only[hr,List.mem_singleton] at h
   subst h
   simp only[List.mem_cons,List.length_cons]
   exact⟨.inl trivial,by omega,by omega⟩
  | cons y q =>
   obtain⟨x,k⟩:=y
   rw[hr] at h ih
   dsimp only at h
   split at h
   ·rcases List.mem_cons.1 h with rfl | h
    ·obtain⟨a1,a2,a3⟩:=ih (x,k) (by simp)
     simp only[List.mem_cons,List.length_cons] at *
     exact⟨.inr a1,by omega,by omega⟩
    ·obtain⟨a1,a2,a3⟩:=ih r (by simp[h])
     simp only[List.mem_cons,List.length_cons]
     exact⟨.inr a1,by omega,by omega⟩
   ·rcases List.mem_cons.1 h with rfl | h
    ·simp only[List.mem_cons,List.length_cons]
     exact⟨.inl trivial,by omega,by omega⟩
    ·obtain⟨a1,a2,a3⟩:=ih r h
     simp only[List.mem_cons,List.length_cons]
     exact⟨.inr a1,by omega,by omega⟩
theorem Jw:∀ l:List DVal,(runs l).length≤l.length
 | []=>Nat.le_refl _
 | v::l=>by
  have:=Jw l
  rw[NI]
  split
  ·simp
  ·rename_i x k r h
   rw[h] at this
   simp only[List.length_cons] at this ⊢
   split<;>simp<;>omega
theorem take_snoc {α:Type} {l:List α} {i:Nat} (h:i<l.length):l.take (i+1)=l.take i ++ [l[i]]:=List.take_succ_eq_append_getElem h
theorem Ud (rs:List (DVal×Int)) (v:DVal):(rs ++ [(v,1)]).map Dw=rs.map Dw ++ [[.v (.int .i64 v.ty),.v (.int .i64 v.n),.v (.string v.s),.v (.int .i64 1)]]:=by simp[Dw]
theorem Zu (rs:List (DVal×Int)) (v:DVal):E5 (rs.map Dw ++ [[.v (.int .i64 v.ty),.v (.int .i64 v.n),.v (.string v.s),.v (.int .i64 1)]])=true:=by rw[← Ud]; exact Hg _
theorem Xu (rs:List (DVal×Int)) (n:Nat) (v:DVal) (k:Int):(rs.set n (v,k)).map Dw=(rs.map Dw).set n [.v (.int .i64 v.ty),.v (.int .i64 v.n),.v (.string v.s),.v (.int .i64 k)]:=by rw[List.map_set]; rfl
theorem gq (rs:List (DVal×Int)) (n:Nat) (v:DVal) (k:Int):E5 ((rs.map Dw).set n [.v (.int .i64 v.ty),.v (.int .i64 v.n),.v (.string v.s),.v (.int .i64 k)])=true:=by rw[← Xu]; exact Hg _
theorem Vy {l:List DVal} {j:Nat} (hj:j<l.length):∃ (n:Nat) (h:(runs (l.take (j+1))).length=n+1),((runs (l.take (j+1)))[n]'(by omega)).1=l[j]:=by
 have hs:runs (l.take (j+1))=JD (runs (l.take j)) l[j]:=by rw[take_snoc hj,NJ]
 obtain⟨q,hq⟩:=Vx l[j] (runs (l.take j))
 rw[← hs] at hq
 have hne:runs (l.take (j+1))≠ []:=by rw[hs]; exact qE _ _
 have hlen:0<(runs (l.take (j+1))).length:=List.length_pos_iff.2 hne
 refine⟨(runs (l.take (j+1))).length-1,by omega, ?_⟩
 rw[List.getLast?_eq_getElem?,List.getElem?_eq_getElem (by omega)] at hq
 rw[Option.some.inj hq]
theorem dY (l:List DVal) (hl:l.length≤1048576):Ctr Tryz.prog 249 [.c (.sl (l.map DVal.c))] [.val (.c (.sl ((runs l).map Dw)))]:=by
 refine Ctr.mk Tryz.call249 Tryz.func249 rfl mixed Tryz.ntmps249 Tryz.results249 (by kernel_rfl) rfl fun hw=>?_
 simp only[go_sem]
 refine LoopH.mk [6] (A:=Nat) (fun x=>[(9,.c (.v (.int .i64 (x)))),(3,.c (.ref 0))]) (fun x=>[⟨248,4,(runs (l.take x)).map Dw,true,true⟩]) (fun x=>x≤l.length) (fun x=>l.length-x) 0 (Head.sel [(0,false)] ⟨rfl,rfl,rfl,trivial⟩ rfl) (Nat.zero_le _) ?_
 rintro i hi
 simp only[go_sem]
 refine cndC.mk (fun h=>?_) (fun h=>?_)
 ·have hi':i<l.length:=by simp at h; omega
  have hs:runs (l.take (i+1))=JD (runs (l.take i)) l[i]:=by rw[take_snoc hi',NJ]
  have hrl:=Jw (l.take i)
  rw[List.length_take] at hrl
  have hl2:(runs (l.take i)).length+1≤2147483648:=by omega
  rcases h2:decide ((i:Int)>0) with _ | _
  ·have h2':i=0:=by simp at h2; omega
   subst h2'
   have hs2:runs (l.take (0+1)) = [(l[0],1)]:=by rw[hs]; rfl
   have hs3:(runs ([]:List DVal)).map Dw = []:=rfl
   have hs4:(runs ([]:List DVal)).length=0:=rfl
   simp only[go_sem,AA _ hi']
   refine DrawK.mk ?_
   simp only[go_sem,h2,Hg,hs4,Nat.zero_le,wrap_i64 (n:=((0:Nat):Int)+1) (by omega) (by omega)]
   exact⟨0+1,Head.sel [(3,false)] ⟨rfl,rfl,rfl,trivial⟩ (by rw[hs2]; rfl),hi',by omega⟩
  ·have h2':0<i:=by simpa using h2
   obtain⟨j,rfl⟩:∃ j,i=j+1:=⟨i-1,by omega⟩
   have hj:j<l.length:=by omega
   have hw1:IntKind.i64.wrap (((j+1:Nat):Int)-1)=(j:Int):=by rw[show (((j+1:Nat):Int)-1)=(j:Int) by omega]; exact wrap_i64 (by omega) (by omega)
   have e1:(l[j].ty==l[j+1].ty&&(l[j].n==l[j+1].n&&l[j].s.toList==l[j+1].s.toList))=Ik l[j] l[j+1]:=rfl
   obtain⟨n,hn,hn2⟩:=Vy hj
   have hn3:n<(runs (l.take (j+1))).length:=by omega
   rw[Xt l[j+1] hn,hn2] at hs
   simp only[go_sem,AA _ hi']
   refine DrawK.mk ?_
   simp only[go_sem,h2,hw1,AA _ hj,Jd,P9,e1]
   rcases h3:Ik l[j] l[j+1] with _ | _
   ·rw[h3,if_neg (by simp)] at hs
    simp only[go_sem,h3,hl2,Hg,wrap_i64 (n:=((j+1:Nat):Int)+1) (by omega) (by omega)]
    exact⟨j+1+1,Head.sel [(3,false)] ⟨rfl,rfl,Zu _ _,trivial⟩ (by rw[hs,Ud]; rfl),hi',by omega⟩
   ·rw[h3,if_pos rfl] at hs
    have hw2:IntKind.i64.wrap (((runs (l.take (j+1))).length:Int)-1)=(n:Int):=by rw[show (((runs (l.take (j+1))).length:Int)-1)=(n:Int) by omega]; exact wrap_i64 (by omega) (by omega)
    obtain⟨b1,b2,b3⟩:=IC (List.getElem_mem hn3)
    rw[List.length_take] at b3
    simp only[go_sem,h3,hw2,hn3,AA _ hn3,Dw,Hg,hn2,wrap_i64 (n:=(runs (l.take (j+1)))[n].2+1) (by omega) (by omega),wrap_i64 (n:=((j+1:Nat):Int)+1) (by omega) (by omega)]
    exact⟨j+1+1,Head.sel [(0,false)] ⟨rfl,rfl,gq _ _ _ _,trivial⟩ (by rw[hs,Xu]; rfl),hi',by omega⟩
 ·have hi':i=l.length:=by simp at h; omega
  subst hi'
  simp only[go_sem,List.take_length,Hg]
  try simp[AU,AC]
theorem dZ (l:List DVal) (hl:l.length≤1048576):Ctr Tryz.prog 235 [.c (.sl (l.map DVal.c))] [.val (.c (.sl ((runs l).map Dw)))]:=by
 refine Ctr.mk Tryz.call235 Tryz.func235 rfl mixed Tryz.ntmps235 Tryz.results235 (by kernel_rfl) rfl fun hw=>?_
 simp only[go_sem]
 refine LoopH.mk [6] (A:=Nat) (fun x=>[(4,.c (.v (.int .i64 (x)))),(3,.c (.ref 0))]) (fun x=>[⟨248,4,(runs (l.take x)).map Dw,true,true⟩]) (fun x=>x≤l.length) (fun x=>l.length-x) 0 (Head.sel [(0,false)] ⟨rfl,rfl,rfl,trivial⟩ rfl) (Nat.zero_le _) ?_
 rintro i hi
 simp only[go_sem]
 refine cndC.mk (fun h=>?_) (fun h=>?_)
 ·have hi':i<l.length:=by simp at h; omega
  have hs:runs (l.take (i+1))=JD (runs (l.take i)) l[i]:=by rw[take_snoc hi',NJ]
  have hrl:=Jw (l.take i)
  rw[List.length_take] at hrl
  have hl2:(runs (l.take i)).length+1≤2147483648:=by omega
  rcases i with _ | j
  ·have h2:decide ((0:Int)>0)=false:=by decide
   have hs2:runs (l.take (0+1)) = [(l[0],1)]:=by rw[hs]; rfl
   have hs4:(runs ([]:List DVal)).length=0:=rfl
   simp only[go_sem,List.take_zero,hs4,Int.ofNat_zero,Int.natCast_zero]
   refine DrawK.mk ?_
   simp only[go_sem,List.take_zero,hs4,h2,Int.ofNat_zero,Int.natCast_zero,AA _ hi',Hg,Nat.zero_le,wrap_i64 (n:=(0:Int)+1) (by omega) (by omega)]
   exact⟨0+1,Head.sel [(2,false)] ⟨rfl,rfl,rfl,trivial⟩ (by rw[hs2]; rfl),hi',by omega⟩
  ·have hj:j<l.length:=by omega
   obtain⟨n,hn,hn2⟩:=Vy hj
   have hn3:n<(runs (l.take (j+1))).length:=by omega
   rw[Xt l[j+1] hn,hn2] at hs
   have h2:decide (((runs (l.take (j+1))).length:Int)>0)=true:=by rw[decide_eq_true_eq]; omega
   have hw2:IntKind.i64.wrap (((runs (l.take (j+1))).length:Int)-1)=(n:Int):=by rw[show (((runs (l.take (j+1))).length:Int)-1)=(n:Int) by omega]; exact wrap_i64 (by omega) (by omega)
   have e1:(l[j].ty==l[j+1].ty&&(l[j].n==l[j+1].n&&l[j].s.toList==l[j+1].s.toList))=Ik l[j] l[j+1]:=rfl
   simp only[go_sem]
   refine DrawK.mk ?_
   simp only[go_sem,h2,hw2,hn3,AA _ hn3,AA _ hi',Dw,hn2,Jd,P9,e1]
   rcases h3:Ik l[j] l[j+1] with _ | _
   ·rw[h3,if_neg (by simp)] at hs
    simp only[go_sem,h3,hl2,AA _ hi',Hg,wrap_i64 (n:=((j+1:Nat):Int)+1) (by omega) (by omega)]
    exact⟨j+1+1,Head.sel [(2,false)] ⟨rfl,rfl,Zu _ _,trivial⟩ (by rw[hs,Ud]; rfl),hi',by omega⟩
   ·rw[h3,if_pos rfl] at hs
    obtain⟨b1,b2,b3⟩:=IC (List.getElem_mem hn3)
    rw[List.length_take] at b3
    simp only[go_sem,h3,hw2,hn3,AA _ hn3,AA _ hi',Dw,Hg,hn2,wrap_i64 (n:=(runs (l.take (j+1)))[n].2+1) (by omega) (by omega),wrap_i64 (n:=((j+1:Nat):Int)+1) (by omega) (by omega)]
    exact⟨j+1+1,Head.sel [(0,false)] ⟨rfl,rfl,gq _ _ _ _,trivial⟩ (by rw[hs,Xu]; rfl),hi',by omega⟩
 ·have hi':i=l.length:=by simp at h; omega
  subst hi'
  simp only[go_sem,List.take_length,Hg]
  try simp[AU,AC]
theorem KX (v:DVal) (k:Int) (r:List (DVal×Int)) (n:Nat):FO ((v,k)::r) n=if k<1∨k>64-n then none else(FO r (n+k.toNat)).map fun l=>List.replicate k.toNat v++l:=rfl
theorem KY {α:Type} {l:List α} {i:Nat} (h:i<l.length):l.drop i=l[i]::l.drop (i+1):=List.drop_eq_getElem_cons h
theorem Zv (out:List DVal) (j:Nat) (v:DVal):(out++List.replicate (j+1) v).map DVal.c=(out++List.replicate j v).map DVal.c ++ [v.c]:=by
 rw[List.replicate_succ',← List.append_assoc,EQ]
theorem nJ (out:List DVal) (j:Nat) (v:DVal):E5 ((out++List.replicate j v).map DVal.c ++ [v.c])=true:=by rw[← EQ]; exact KR _
theorem Xv (r:List (DVal×Int)) (hl:r.length≤1048576):Ctr Tryz.prog 219 [.c (.sl (r.map Dw))] [.val (.c (.sl ((spread r).map DVal.c)))]:=by
 refine Ctr.mk Tryz.call219 Tryz.func219 rfl mixed Tryz.ntmps219 Tryz.results219 (by kernel_rfl) rfl fun hw=>?_
 simp only[go_sem]
 refine LoopH.mk [7] (A:=Nat×List DVal) (fun x=>[(10,.c (.v (.int .i64 (x.1)))),(3,.c (.ref 0))]) (fun x=>[⟨72,3,x.2.map DVal.c,true,true⟩]) (fun x=>x.1≤r.length∧x.2.length≤64∧(FO (r.drop x.1) x.2.length).map (fun y=>x.2++y)=FO r 0) (fun x=>r.length-x.1) (0,[]) (Head.sel [(0,false)] ⟨rfl,rfl,rfl,trivial⟩ rfl) ⟨Nat.zero_le _,Nat.zero_le _,by simp⟩ ?_
 rintro⟨i,out⟩ ⟨hi,hll,hp⟩
 dsimp only at hi hll hp
 simp only[go_sem]
 refine cndC.mk (fun h=>?_) (fun h=>?_)
 ·have hi':i<r.length:=by simp at h; omega
  rw[KY hi',show r[i]=(r[i].1,r[i].2) from rfl,KX] at hp
  rcases h2:decide (r[i].2<1) with _ | _
  rotate_left
  ·rw[if_pos (.inl (by simpa using h2))] at hp
   simp only[Option.map_none] at hp
   have e:spread r = []:=by rw[spread,← hp]; rfl
   rw[e]
   simp only[go_sem,AA _ hi',Dw,h2,List.map_nil]
  have h2':1≤r[i].2:=by simp at h2; omega
  have hw1:IntKind.i64.wrap (64-(out.length:Int))=64-(out.length:Int):=wrap_i64 (by omega) (by omega)
  rcases h3:decide (r[i].2>64-(out.length:Int)) with _ | _
  rotate_left
  ·rw[if_pos (.inr (by simpa using h3))] at hp
   simp only[Option.map_none] at hp
   have e:spread r = []:=by rw[spread,← hp]; rfl
   rw[e]
   simp only[go_sem,AA _ hi',Dw,h2,hw1,h3,List.map_nil]
  have h3':r[i].2≤64-(out.length:Int):=by simp at h3; omega
  obtain⟨K,hK⟩:=Int.eq_ofNat_of_zero_le (show 0≤r[i].2 by omega)
  rw[if_neg (by omega),hK,Int.toNat_natCast] at hp
  rw[hK] at h2 h3 h2' h3'
  simp only[go_sem,AA _ hi',Dw,hK,h2,hw1,h3]
  refine LoopH.mk [20] (A:=Nat) (fun x=>[(6,.c (.v (.int .i64 (x)))),(3,.c (.ref 0))]) (fun x=>[⟨72,3,(out++List.replicate x r[i].1).map DVal.c,true,true⟩,⟨248,4,[Dw (r[i].1,(K:Int))],true,true⟩]) (fun x=>x≤K) (fun x=>K-x) 0 (Head.sel [(0,false),(1,false)] ⟨rfl,rfl,KR _,rfl,trivial⟩ (by simp only[List.replicate_zero,List.append_nil]; rfl)) (Nat.zero_le _) ?_
  rintro j hj
  have hl2:out.length+j+1≤2147483648:=by omega
  simp only[go_sem,Dw]
  refine cndC.mk (fun h=>?_) (fun h=>?_)
  ·have hj':j<K:=by simp[Dw] at h; omega
   simp only[go_sem,Dw,hl2,List.length_replicate,wrap_i64 (n:=(j:Int)+1) (by omega) (by omega)]
   exact⟨j+1,Head.sel [(3,false),(1,false)] ⟨rfl,rfl,nJ _ _ _,rfl,trivial⟩ (by rw[Zv]; rfl),hj',by omega⟩
  ·have hj':j=K:=by simp[Dw] at h; omega
   subst hj'
   simp only[go_sem,Dw,wrap_i64 (n:=(i:Int)+1) (by omega) (by omega)]
   exact⟨(i+1,out++List.replicate j r[i].1),Head.sel [(0,false)] ⟨rfl,rfl,KR _,trivial⟩ rfl,⟨hi',by simp; omega,by
    rw[← hp,Option.map_map,List.length_append,List.length_replicate]; congr 1; funext y; simp⟩,by simp only; omega⟩
 ·have hi':i=r.length:=by simp at h; omega
  subst hi'
  rw[List.drop_length] at hp
  simp only[FO,Option.map_some,List.append_nil] at hp
  have e:spread r=out:=by rw[spread,← hp]; rfl
  rw[e]
  simp only[go_sem]
  try simp[AU,AC]
end Go.Proofs.YthoeeoddgkjkkaaGreat
/- Walks: dictionaries: places,picked. -/
namespace Go.Vm
set_option linter.unusedSimpArgs false
set_option linter.unusedVariables false
theorem Head.frz {s:MS} (ls:List Nat) {st':List Ob} (h:RJ s.st ls=some st'):Head s ⟨s.n,s.env,st'⟩:=⟨rfl,fun w0 St0 St β a w hc=>by
 obtain⟨St',h'⟩:=Tt ls s.st st' St hc h
 exact⟨St',β,h'⟩⟩
end Go.Vm
namespace Go.Proofs.YthoeeoddgkjkkaaGreat
set_option linter.unusedSimpArgs false
set_option linter.unusedVariables false
open Go.Vm
set_option maxHeartbeats 2000000
set_option maxRecDepth 10000
theorem drop_cons {α:Type} {l:List α} {i:Nat} (h:i<l.length):l.drop i=l[i]::l.drop (i+1):=List.drop_eq_getElem_cons h
theorem Ic (v x:DVal) (r:List DVal) (i:Nat):placeOf v (x::r) i=if Ik x v=true then some (i:Int) else placeOf v r (i+1):=rfl
theorem OX {v:DVal}:∀ {d:List DVal} {k:Nat} {i:Int},placeOf v d k=some i→(k:Int)≤i
 | [],_,_,h=>by cases h
 | x::r,k,i,h=>by
  rw[Ic] at h
  split at h
  ·simp only[Option.some.injEq] at h; omega
  ·have:=OX h; omega
theorem nK (a b:DVal):Ik a b=Ik b a:=by
 rw[Bool.eq_iff_iff,Gy,Gy]; exact eq_comm
theorem Xw (d:List DVal) (v:DVal) (hl:d.length≤1048576):Ctr Tryz.prog 260 [.c (.sl (d.map DVal.c)),.agg v.c] [.val (.c (.v (.int .i64 ((placeOf v d 0).getD (-1)))))]:=by
 refine Ctr.mk Tryz.call260 Tryz.func260 rfl mixed Tryz.ntmps260 Tryz.results260 (by kernel_rfl) rfl fun hw=>?_
 simp only[go_sem]
 refine LoopU.mk 1 (A:=Nat) (fun x=>[(5,.c (.v (.int .i64 (x))))]) (fun _=>[⟨72,3,[v.c],true,true⟩]) (fun x=>x≤d.length∧placeOf v (d.drop x) x=placeOf v d 0) (fun x=>d.length-x) 0 ⟨⟨rfl,rfl⟩,rfl,Nat.zero_le _,rfl⟩ ?_
 rintro i ⟨hi,hp⟩
 simp only[go_sem]
 refine cndC.mk (fun h=>?_) (fun h=>?_)
 ·have hi':i<d.length:=by simp at h; omega
  have e1:(d[i].ty==v.ty&&(d[i].n==v.n&&d[i].s.toList==v.s.toList))=Ik d[i] v:=rfl
  rw[drop_cons hi',Ic] at hp
  simp only[go_sem,AA _ hi']
  refine DrawK.mk ?_
  simp only[go_sem,AA _ hi',Jd,P9,e1]
  rcases h2:Ik d[i] v with _ | _
  ·simp only[h2,Bool.false_eq_true,if_false] at hp
   simp only[go_sem,h2,wrap_i64 (n:=(i:Int)+1) (by omega) (by omega)]
   exact⟨i+1,⟨rfl,rfl⟩,rfl,⟨hi',hp⟩,by omega⟩
  ·simp only[h2,if_true] at hp
   rw[← hp]
   simp only[go_sem,h2]
 ·have hi':i=d.length:=by simp at h; omega
  subst hi'
  rw[List.drop_length] at hp
  rw[← hp]
  simp only[go_sem,placeOf,Option.getD_none]
theorem index_spec (d:List DVal) (v:DVal) (hl:d.length≤1048576):Ctr Tryz.prog 269 [.c (.sl (d.map DVal.c)),.agg v.c] [.val (.c (.v (.int .i64 ((placeOf v d 0).getD (-1)))))]:=by
 refine Ctr.mk Tryz.call269 Tryz.func269 rfl mixed Tryz.ntmps269 Tryz.results269 (by kernel_rfl) rfl fun hw=>?_
 simp only[go_sem]
 refine LoopU.mk 1 (A:=Nat) (fun x=>[(8,.c (.v (.int .i64 (x))))]) (fun _=>[⟨72,3,[v.c],true,true⟩]) (fun x=>x≤d.length∧placeOf v (d.drop x) x=placeOf v d 0) (fun x=>d.length-x) 0 ⟨⟨rfl,rfl⟩,rfl,Nat.zero_le _,rfl⟩ ?_
 rintro i ⟨hi,hp⟩
 simp only[go_sem]
 refine cndC.mk (fun h=>?_) (fun h=>?_)
 ·have hi':i<d.length:=by simp at h; omega
  have e1:(v.ty==d[i].ty&&(v.n==d[i].n&&v.s.toList==d[i].s.toList))=Ik v d[i]:=rfl
  rw[drop_cons hi',Ic] at hp
  simp only[go_sem,AA _ hi']
  refine DrawK.mk ?_
  simp only[go_sem,AA _ hi',Jd,P9,e1,nK v d[i]]
  rcases h2:Ik d[i] v with _ | _
  ·simp only[h2,Bool.false_eq_true,if_false] at hp
   simp only[go_sem,h2,wrap_i64 (n:=(i:Int)+1) (by omega) (by omega)]
   exact⟨i+1,⟨rfl,rfl⟩,rfl,⟨hi',hp⟩,by omega⟩
  ·simp only[h2,if_true] at hp
   rw[← hp]
   simp only[go_sem,h2]
 ·have hi':i=d.length:=by simp at h; omega
  subst hi'
  rw[List.drop_length] at hp
  rw[← hp]
  simp only[go_sem,placeOf,Option.getD_none]
theorem Xx (d:List DVal) (v:DVal) (hl:d.length≤1048576):Ctr Tryz.prog 267 [.c (.sl (d.map DVal.c)),.agg v.c] [.val (.c (.v (.int .i64 ((placeOf v d 0).getD (-1)))))]:=by
 refine Ctr.mk Tryz.call267 Tryz.func267 rfl mixed Tryz.ntmps267 Tryz.results267 (by kernel_rfl) rfl fun hw=>?_
 simp only[go_sem]
 refine CallK.mk _ (index_spec d v hl) fun _=>?_
 simp only[go_sem]
theorem places_cons (d:List DVal) (v:DVal) (l:List DVal):places d (v::l)=match placeOf v d 0,places d l with
  | some i,some r=>some (i::r)
  | _,_=>none:=rfl
theorem Xy (d l:List DVal) (hl:l.length≤1048576) (hd:d.length≤1048576):Ctr Tryz.prog 254 [.c (.sl (d.map DVal.c)),.c (.sl (l.map DVal.c))] (Su (places d l)):=by
 refine Ctr.mk Tryz.call254 Tryz.func254 rfl mixed Tryz.ntmps254 Tryz.results254 (by kernel_rfl) rfl fun hw=>?_
 simp only[go_sem]
 refine LoopH.mk [10] (A:=Nat×List Int) (fun x=>[(13,.c (.v (.int .i64 (x.1)))),(6,.c (.ref 0))]) (fun x=>[⟨3,1,x.2.map intC,true,true⟩]) (fun x=>x.1≤l.length∧x.2.length=x.1∧(places d (l.drop x.1)).map (fun y=>x.2++y)=places d l) (fun x=>l.length-x.1) (0,[]) (Head.sel [(0,false)] ⟨rfl,rfl,rfl,trivial⟩ rfl) ⟨Nat.zero_le _,rfl,by simp⟩ ?_
 rintro⟨i,out⟩ ⟨hi,hll,hp⟩
 dsimp only at hi hll hp
 simp only[go_sem]
 refine cndC.mk (fun h=>?_) (fun h=>?_)
 ·have hi':i<l.length:=by simp at h; omega
  have hl2:out.length+1≤2147483648:=by omega
  rw[drop_cons hi',places_cons] at hp
  simp only[go_sem,AA _ hi']
  refine CallK.mk _ (Xx d l[i] hd) fun _=>?_
  rcases h2:placeOf l[i] d 0 with _ | p
  ·rw[h2] at hp
   simp only[Option.map_none] at hp
   have h3:decide ((-1:Int)<0)=true:=by decide
   rw[← hp]
   simp only[go_sem,h2,Option.getD_none,h3,Su]
  ·rw[h2] at hp
   have h3:decide (p<0)=false:=by have:=OX h2; simp; omega
   simp only[go_sem,h2,h3,hl2,wrap_i64 (n:=(i:Int)+1) (by omega) (by omega)]
   exact⟨(i+1,out ++ [p]),Head.sel [(3,false)] ⟨rfl,rfl,by rw[← EP]; exact Eh _,trivial⟩ (by rw[EP]; rfl),⟨hi',by simp; omega,by
    rw[← hp]
    cases places d (l.drop (i+1))<;>simp⟩,by simp only; omega⟩
 ·have hi':i=l.length:=by simp at h; omega
  subst hi'
  rw[List.drop_length] at hp
  simp only[places,Option.map_some,List.append_nil] at hp
  rw[← hp]
  simp only[go_sem,Su]
  try simp[AU,AC]
theorem Xz (d l:List DVal) (hl:l.length≤1048576) (hd:d.length≤1048576):Ctr Tryz.prog 241 [.c (.sl (d.map DVal.c)),.c (.sl (l.map DVal.c))] (Su (places d l)):=by
 refine Ctr.mk Tryz.call241 Tryz.func241 rfl mixed Tryz.ntmps241 Tryz.results241 (by kernel_rfl) rfl fun hw=>?_
 simp only[go_sem]
 refine LoopH.mk [9] (A:=Nat×List Int) (fun x=>[(7,.c (.v (.int .i64 (x.1)))),(6,.c (.ref 0))]) (fun x=>[⟨3,1,x.2.map intC,true,true⟩]) (fun x=>x.1≤l.length∧x.2.length=x.1∧(places d (l.drop x.1)).map (fun y=>x.2++y)=places d l) (fun x=>l.length-x.1) (0,[]) (Head.sel [(0,false)] ⟨rfl,rfl,rfl,trivial⟩ rfl) ⟨Nat.zero_le _,rfl,by simp⟩ ?_
 rintro⟨i,out⟩ ⟨hi,hll,hp⟩
 dsimp only at hi hll hp
 simp only[go_sem]
 refine cndC.mk (fun h=>?_) (fun h=>?_)
 ·have hi':i<l.length:=by simp at h; omega
  have hl2:out.length+1≤2147483648:=by omega
  rw[drop_cons hi',places_cons] at hp
  simp only[go_sem,AA _ hi']
  refine CallK.mk _ (Xw d l[i] hd) fun _=>?_
  rcases h2:placeOf l[i] d 0 with _ | p
  ·rw[h2] at hp
   simp only[Option.map_none] at hp
   have h3:decide ((-1:Int)<0)=true:=by decide
   rw[← hp]
   simp only[go_sem,h2,Option.getD_none,h3,Su]
   try simp[CY]
  ·rw[h2] at hp
   have h3:decide (p<0)=false:=by have:=OX h2; simp; omega
   simp only[go_sem,h2,h3,hl2,wrap_i64 (n:=(i:Int)+1) (by omega) (by omega)]
   exact⟨(i+1,out ++ [p]),Head.sel [(2,false)] ⟨rfl,rfl,by rw[← EP]; exact Eh _,trivial⟩ (by rw[EP]; rfl),⟨hi',by simp; omega,by
    rw[← hp]
    cases places d (l.drop (i+1))<;>simp⟩,by simp only; omega⟩
 ·have hi':i=l.length:=by simp at h; omega
  subst hi'
  rw[List.drop_length] at hp
  simp only[places,Option.map_some,List.append_nil] at hp
  rw[← hp]
  simp only[go_sem,Su]
  try simp[AU,AC]
theorem Ri (d:List DVal) (i:Int) (l:List Int):picked d (i::l)=if 0≤i then match d[i.toNat]?,picked d l with
   | some v,some r=>some (v::r)
   | _,_=>none
  else none:=rfl
theorem OY {d:List DVal} {i:Int} (l:List Int) (h:¬ (0≤i∧i<d.length)):picked d (i::l)=none:=by
 rw[Ri]
 split
 ·have:d[i.toNat]?=none:=by rw[List.getElem?_eq_none_iff]; omega
  rw[this]
 ·rfl
theorem Vz {d:List DVal} {i:Nat} (l:List Int) (h:i<d.length):picked d ((i:Int)::l)=(picked d l).map (fun r=>d[i]::r):=by
 rw[Ri,if_pos (by omega),Int.toNat_natCast,List.getElem?_eq_getElem h]
 cases picked d l<;>rfl
theorem X0 (d:List DVal) (l:List Int) (hl:l.length≤1048576) (hd:d.length≤1048576):Ctr Tryz.prog 223 [.c (.sl (d.map DVal.c)),.c (.sl (l.map intC))] (CJ (picked d l)):=by
 refine Ctr.mk Tryz.call223 Tryz.func223 rfl mixed Tryz.ntmps223 Tryz.results223 (by kernel_rfl) rfl fun hw=>?_
 simp only[go_sem]
 refine LoopH.mk [9] (A:=Nat×List DVal) (fun x=>[(12,.c (.v (.int .i64 (x.1)))),(6,.c (.ref 0))]) (fun x=>[⟨72,3,x.2.map DVal.c,true,true⟩]) (fun x=>x.1≤l.length∧x.2.length=x.1∧(picked d (l.drop x.1)).map (fun y=>x.2++y)=picked d l) (fun x=>l.length-x.1) (0,[]) (Head.sel [(0,false)] ⟨rfl,rfl,rfl,trivial⟩ rfl) ⟨Nat.zero_le _,rfl,by simp⟩ ?_
 rintro⟨i,out⟩ ⟨hi,hll,hp⟩
 dsimp only at hi hll hp
 simp only[go_sem]
 refine cndC.mk (fun h=>?_) (fun h=>?_)
 ·have hi':i<l.length:=by simp at h; omega
  have hl2:out.length+1≤2147483648:=by omega
  rw[drop_cons hi'] at hp
  simp only[go_sem,AA _ hi']
  rcases h2:decide (l[i]<0) with _ | _
  ·have h2':0≤l[i]:=by simpa using h2
   rcases h3:decide (l[i]≥(d.length:Int)) with _ | _
   ·have h3':l[i]<d.length:=by simpa using h3
    obtain⟨p,hpe⟩:=Int.eq_ofNat_of_zero_le h2'
    have hp':p<d.length:=by omega
    rw[hpe,Vz _ hp'] at hp
    rw[hpe] at h2 h3
    simp only[go_sem,hpe,h2,h3,hl2,AA _ hp',wrap_i64 (n:=(i:Int)+1) (by omega) (by omega)]
    exact⟨(i+1,out ++ [d[p]]),Head.sel [(2,false)] ⟨rfl,rfl,Ib _ _,trivial⟩ (by rw[EQ]; rfl),⟨hi',by simp; omega,by
     rw[← hp,Option.map_map]; congr 1; funext y; simp⟩,by simp only; omega⟩
   ·rw[OY _ (by simp at h3; omega)] at hp
    rw[← hp]
    simp only[go_sem,h2,h3,Option.map_none,CJ]
  ·rw[OY _ (by simp at h2; omega)] at hp
   rw[← hp]
   simp only[go_sem,h2,Option.map_none,CJ]
 ·have hi':i=l.length:=by simp at h; omega
  subst hi'
  rw[List.drop_length] at hp
  simp only[picked,Option.map_some,List.append_nil] at hp
  rw[← hp]
  simp only[go_sem,CJ]
  try simp[AU,AC]
theorem Px (d:List DVal) (l:List Int) (hl:l.length≤1048576) (hd:d.length≤1048576):Ctr Tryz.prog 207 [.c (.sl (d.map DVal.c)),.c (.sl (l.map intC))] (CJ (picked d l)):=by
 refine Ctr.mk Tryz.call207 Tryz.func207 rfl mixed Tryz.ntmps207 Tryz.results207 (by kernel_rfl) rfl fun hw=>?_
 simp only[go_sem]
 refine LoopH.mk [8] (A:=Nat×List DVal) (fun x=>[(7,.c (.v (.int .i64 (x.1)))),(6,.c (.ref 0))]) (fun x=>[⟨72,3,x.2.map DVal.c,true,true⟩]) (fun x=>x.1≤l.length∧x.2.length=x.1∧(picked d (l.drop x.1)).map (fun y=>x.2++y)=picked d l) (fun x=>l.length-x.1) (0,[]) (Head.sel [(0,false)] ⟨rfl,rfl,rfl,trivial⟩ rfl) ⟨Nat.zero_le _,rfl,by simp⟩ ?_
 rintro⟨i,out⟩ ⟨hi,hll,hp⟩
 dsimp only at hi hll hp
 simp only[go_sem]
 refine cndC.mk (fun h=>?_) (fun h=>?_)
 ·have hi':i<l.length:=by simp at h; omega
  have hl2:out.length+1≤2147483648:=by omega
  rw[drop_cons hi'] at hp
  simp only[go_sem,AA _ hi',wrap_i64 (n:=(d.length:Int)-1) (by omega) (by omega)]
  refine CallK.mk _ (Am _ _ _) fun _=>?_
  rcases h2:BQ l[i] 0 ((d.length:Int)-1) with _ | _
  ·rw[OY _ (by simp[BQ] at h2; omega)] at hp
   rw[← hp]
   simp only[go_sem,h2,Option.map_none,CJ]
   try simp[CY]
  ·have h2':0≤l[i]∧l[i]<d.length:=by simp[BQ] at h2; omega
   obtain⟨p,hpe⟩:=Int.eq_ofNat_of_zero_le h2'.1
   have hp':p<d.length:=by omega
   rw[hpe,Vz _ hp'] at hp
   rw[hpe] at h2
   simp only[go_sem,AA _ hi',hpe,h2,hl2,AA _ hp',wrap_i64 (n:=(i:Int)+1) (by omega) (by omega)]
   exact⟨(i+1,out ++ [d[p]]),Head.sel [(2,false)] ⟨rfl,rfl,Ib _ _,trivial⟩ (by rw[EQ]; rfl),⟨hi',by simp; omega,by
    rw[← hp,Option.map_map]; congr 1; funext y; simp⟩,by simp only; omega⟩
 ·have hi':i=l.length:=by simp at h; omega
  subst hi'
  rw[List.drop_length] at hp
  simp only[picked,Option.map_some,List.append_nil] at hp
  rw[← hp]
  simp only[go_sem,CJ]
  try simp[AU,AC]
end Go.Proofs.YthoeeoddgkjkkaaGreat
/- Walks: frames. -/
namespace Go.Proofs.YthoeeoddgkjkkaaGreat
set_option linter.unusedSimpArgs false
set_option linter.unusedVariables false
open Go.Vm
set_option maxHeartbeats 2000000
set_option maxRecDepth 10000
theorem df {l:List DVal} (h:0<l.length):BO (l.take 1)=l[0].n:=by
 cases l with
 | nil=>simp at h
 | cons v r=>rfl
theorem Rj {l:List DVal} {i:Nat} (h0:0<i) (h:i<l.length):BO (l.take (i+1))=min (BO (l.take i)) l[i].n:=by
 cases l with
 | nil=>simp at h
 | cons v r =>
  obtain⟨j,rfl⟩:∃ j,i=j+1:=⟨i-1,by omega⟩
  have hj:j<r.length:=by simpa using h
  simp only[List.take_succ_cons,List.getElem_cons_succ]
  show (r.take (j+1)).foldl _ _=min ((r.take j).foldl _ _) _
  rw[List.take_succ_eq_append_getElem hj,List.foldl_append]
  rfl
theorem Zw {l:List DVal} (h:0<l.length):l.foldl (fun n x=>min n x.n) l[0].n=BO l:=by
 cases l with
 | nil=>simp at h
 | cons v r =>
  show r.foldl _ (min v.n v.n)=r.foldl _ v.n
  rw[show min v.n v.n=v.n by omega]
theorem Qd:∀ {l:List DVal} {v:DVal},v∈l→BO l≤v.n∧∃ x∈l,BO l=x.n:=by
 have key:∀ (r:List DVal) (n:Int),r.foldl (fun n x=>min n x.n) n≤n∧(∀ x∈r,r.foldl (fun n x=>min n x.n) n≤x.n)∧(r.foldl (fun n x=>min n x.n) n=n∨∃ x∈r,r.foldl (fun n x=>min n x.n) n=x.n):=by
  intro r
  induction r with
  | nil=>intro n; simp
  | cons v r ih =>
   intro n
   obtain⟨a1,a2,a3⟩:=ih (min n v.n)
   simp only[List.foldl_cons]
   refine⟨by omega,fun x hx=>?_, ?_⟩
   ·rcases List.mem_cons.1 hx with rfl | hx
    ·omega
    ·exact a2 x hx
   ·rcases a3 with a3 | ⟨x,hx,a3⟩
    ·by_cases h:n≤v.n
     ·left; omega
     ·right; exact⟨v,by simp,by omega⟩
    ·right; exact⟨x,by simp[hx],a3⟩
 intro l v hv
 cases l with
 | nil=>cases hv
 | cons w r =>
  obtain⟨a1,a2,a3⟩:=key r w.n
  have e:BO (w::r)=r.foldl (fun n x=>min n x.n) w.n:=rfl
  rw[e]
  refine⟨?_, ?_⟩
  ·rcases List.mem_cons.1 hv with rfl | hv
   ·exact a1
   ·exact a2 v hv
  ·rcases a3 with a3 | ⟨x,hx,a3⟩
   ·exact⟨w,by simp,a3⟩
   ·exact⟨x,by simp[hx],a3⟩
theorem Sz {v:DVal} (h:BD v=true) (h1:v.ty=1) : -1000000000≤v.n∧v.n≤1000000000:=by
 simp only[BD,if_pos h1,Bool.and_eq_true] at h
 simpa [C9,BQ] using h.1
theorem nM {l:List DVal} (h:typeOf l=1) {v:DVal} (hv:v∈l):0≤v.n-BO l∧v.n-BO l≤2000000000:=by
 obtain⟨_,_,q3⟩:=Bv (l:=l) (by omega)
 obtain⟨a1,x,hx,a2⟩:=Qd hv
 have b1:=Sz (q3 v hv).1 ((q3 v hv).2.trans h)
 have b2:=Sz (q3 x hx).1 ((q3 x hx).2.trans h)
 omega
theorem take_snoc' {α:Type} {l:List α} {i:Nat} (h:i<l.length):l.take (i+1)=l.take i ++ [l[i]]:=List.take_succ_eq_append_getElem h
theorem xC (a b:Int):min a b=if b<a then b else a:=by split<;>omega
theorem Hm {α β:Type} (f:α→β) {l:List α} {i:Nat} (h:i<l.length):(l.take (i+1)).map f=(l.take i).map f ++ [f l[i]]:=by
 rw[List.take_succ_eq_append_getElem h,List.map_append]; rfl
theorem Ue (l:List DVal) (hl:l.length≤1048576):Ctr Tryz.prog 246 [.c (.sl (l.map DVal.c))] [.val (.c (.v (.int .i64 (BO l))))]:=by
 refine Ctr.mk Tryz.call246 Tryz.func246 rfl mixed Tryz.ntmps246 Tryz.results246 (by kernel_rfl) rfl fun hw=>?_
 simp only[go_sem]
 refine LoopU.mk 0 (A:=Nat) (fun x=>[(4,.c (.v (.int .i64 (x)))),(3,.c (.v (.int .i64 (BO (l.take x)))))]) (fun _=>[]) (fun x=>x≤l.length) (fun x=>l.length-x) 0 ⟨⟨rfl,rfl⟩,rfl,Nat.zero_le _⟩ ?_
 rintro i hi
 simp only[go_sem]
 refine cndC.mk (fun h=>?_) (fun h=>?_)
 ·have hi':i<l.length:=by simp at h; omega
  rcases h2:((i:Int)==0) with _ | _
  ·have h2':0<i:=by simp at h2; omega
   rcases h3:decide (l[i].n<BO (l.take i)) with _ | _
   ·have e:BO (l.take (i+1))=BO (l.take i):=by rw[Rj h2' hi']; simp at h3; omega
    simp only[go_sem,AA _ hi',h2,h3,wrap_i64 (n:=(i:Int)+1) (by omega) (by omega)]
    exact⟨i+1,⟨rfl,rfl⟩,by rw[e]; rfl,hi',by omega⟩
   ·have e:BO (l.take (i+1))=l[i].n:=by rw[Rj h2' hi']; simp at h3; omega
    simp only[go_sem,AA _ hi',h2,h3,wrap_i64 (n:=(i:Int)+1) (by omega) (by omega)]
    exact⟨i+1,⟨rfl,rfl⟩,by rw[e]; rfl,hi',by omega⟩
  ·have h2':i=0:=by simpa using h2
   subst h2'
   have e:BO (l.take (0+1))=l[0].n:=df hi'
   simp only[go_sem,AA _ hi',h2,wrap_i64 (n:=((0:Nat):Int)+1) (by omega) (by omega)]
   exact⟨0+1,⟨rfl,rfl⟩,by rw[e]; rfl,hi',by omega⟩
 ·have hi':i=l.length:=by simp at h; omega
  subst hi'
  simp only[go_sem,List.take_length]
theorem Uf (l:List DVal) (hl:l.length≤1048576):Ctr Tryz.prog 258 [.c (.sl (l.map DVal.c))] [.val (.c (.v (.int .i64 (BO l))))]:=by
 refine Ctr.mk Tryz.call258 Tryz.func258 rfl mixed Tryz.ntmps258 Tryz.results258 (by kernel_rfl) rfl fun hw=>?_
 rcases h1:((l.length:Int)==0) with _ | _
 rotate_left
 ·have:l = []:=by simpa using h1
  have e:BO l=0:=by rw[this]; rfl
  rw[e]
  simp only[go_sem,h1]
 have h0:0<l.length:=by
  rcases Nat.eq_zero_or_pos l.length with h | h
  ·rw[h] at h1; exact absurd h1 (by decide)
  ·exact h
 simp only[go_sem,h1,AA _ h0]
 refine LoopU.mk 0 (A:=Nat) (fun x=>[(15,.c (.v (.int .i64 (x)))),(3,.c (.v (.int .i64 ((l.take x).foldl (fun n x=>min n x.n) l[0].n))))]) (fun _=>[]) (fun x=>x≤l.length) (fun x=>l.length-x) 0 ⟨⟨rfl,rfl⟩,rfl,Nat.zero_le _⟩ ?_
 rintro i hi
 simp only[go_sem]
 refine cndC.mk (fun h=>?_) (fun h=>?_)
 ·have hi':i<l.length:=by simp at h; omega
  simp only[go_sem,AA _ hi',wrap_i64 (n:=(i:Int)+1) (by omega) (by omega)]
  exact⟨i+1,⟨rfl,rfl⟩,by rw[take_snoc' hi',List.foldl_append,List.foldl_cons,List.foldl_nil,xC]; rfl,hi',by omega⟩
 ·have hi':i=l.length:=by simp at h; omega
  subst hi'
  rw[← Zw h0]
  simp only[go_sem,List.take_length]
theorem VH (l:List DVal) (hl:l.length≤1048576):Ctr Tryz.prog 256 [.c (.sl (l.map DVal.c))] [.own 3 1 ((offsets l).map intC) true]:=by
 refine Ctr.mk Tryz.call256 Tryz.func256 rfl mixed Tryz.ntmps256 Tryz.results256 (by kernel_rfl) rfl fun hw=>?_
 simp only[go_sem]
 refine CallK.mk _ (BP l hl) fun _=>?_
 rcases h1:typeOf l != 1 with _ | _
 ·have h1':typeOf l=1:=by simpa using h1
  obtain⟨q1,q2,q3⟩:=Bv (l:=l) (by omega)
  have e:offsets l=l.map fun v=>v.n-BO l:=if_neg (by omega)
  rw[e]
  simp only[go_sem,h1]
  refine LoopH.mk [6] (A:=Nat) (fun x=>[(13,.c (.v (.int .i64 (x)))),(3,.c (.ref 0))]) (fun x=>[⟨3,1,((l.take x).map fun v=>v.n-BO l).map intC,true,true⟩]) (fun x=>x≤l.length) (fun x=>l.length-x) 0 (Head.sel [(0,false)] ⟨rfl,rfl,rfl,trivial⟩ rfl) (Nat.zero_le _) ?_
  rintro i hi
  simp only[go_sem]
  refine cndC.mk (fun h=>?_) (fun h=>?_)
  ·have hi':i<l.length:=by simp at h; omega
   have ho:=nM h1' (List.getElem_mem hi')
   have hl2:i+1≤2147483648:=by omega
   simp only[go_sem,AA _ hi']
   refine DrawK.edge 4 6 [0,1,2,3,4,5,6,7,8] [5,6] rfl (by kernel_rfl) rfl (by kernel_rfl) ?_
   simp only[go_sem]
   refine DrawK.mkE ?_
   simp only[go_sem]
   refine CallE.mk _ (Uf l hl) ?_
   simp only[go_sem,hl2,List.length_take,Nat.min_eq_left hi,wrap_i64 (n:=l[i].n-BO l) (by omega) (by omega),wrap_i64 (n:=(i:Int)+1) (by omega) (by omega)]
   exact⟨i+1,Head.sel [(3,false)] ⟨rfl,rfl,by rw[← EP]; exact Eh _,trivial⟩ (by rw[Hm _ hi',EP]; rfl),hi',by omega⟩
  ·have hi':i=l.length:=by simp at h; omega
   subst hi'
   simp only[go_sem,List.take_length]
   try simp[AU,AC]
 ·have h1':typeOf l≠1:=by simpa using h1
  have e:offsets l = []:=if_pos h1'
  rw[e]
  simp only[go_sem,h1]
  try simp[AU,AC,CY]
theorem VI (l:List DVal) (hl:l.length≤1048576):Ctr Tryz.prog 244 [.c (.sl (l.map DVal.c))] [.own 3 1 ((offsets l).map intC) true]:=by
 refine Ctr.mk Tryz.call244 Tryz.func244 rfl mixed Tryz.ntmps244 Tryz.results244 (by kernel_rfl) rfl fun hw=>?_
 simp only[go_sem]
 refine CallK.mk _ (DU l hl) fun _=>?_
 rcases h1:typeOf l != 1 with _ | _
 ·have h1':typeOf l=1:=by simpa using h1
  obtain⟨q1,q2,q3⟩:=Bv (l:=l) (by omega)
  have e:offsets l=l.map fun v=>v.n-BO l:=if_neg (by omega)
  rw[e]
  simp only[go_sem,h1]
  refine CallK.mk _ (Ue l hl) fun _=>?_
  simp only[go_sem]
  refine LoopH.mk [6] (A:=Nat) (fun x=>[(5,.c (.v (.int .i64 (x)))),(3,.c (.ref 0))]) (fun x=>[⟨3,1,((l.take x).map fun v=>v.n-BO l).map intC,true,true⟩]) (fun x=>x≤l.length) (fun x=>l.length-x) 0 (Head.sel [(0,false)] ⟨rfl,rfl,rfl,trivial⟩ rfl) (Nat.zero_le _) ?_
  rintro i hi
  simp only[go_sem]
  refine cndC.mk (fun h=>?_) (fun h=>?_)
  ·have hi':i<l.length:=by simp at h; omega
   have ho:=nM h1' (List.getElem_mem hi')
   have hl2:i+1≤2147483648:=by omega
   simp only[go_sem,AA _ hi',hl2,List.length_take,Nat.min_eq_left hi,wrap_i64 (n:=l[i].n-BO l) (by omega) (by omega),wrap_i64 (n:=(i:Int)+1) (by omega) (by omega)]
   exact⟨i+1,Head.sel [(2,false)] ⟨rfl,rfl,by rw[← EP]; exact Eh _,trivial⟩ (by rw[Hm _ hi',EP]; rfl),hi',by omega⟩
  ·have hi':i=l.length:=by simp at h; omega
   subst hi'
   simp only[go_sem,List.take_length]
   try simp[AU,AC]
 ·have h1':typeOf l≠1:=by simpa using h1
  have e:offsets l = []:=if_pos h1'
  rw[e]
  simp only[go_sem,h1]
  try simp[AU,AC,CY]
def rOk (base x:Int):Prop:=(0≤x∧x≤2000000000)∧base+x≤1000000000
theorem Qe {base:Int} {l:List Int} (h:¬ (-1000000000≤base∧base≤1000000000)):raised base l=none:=if_neg fun q=>h q.1
theorem KZ {base:Int} {l:List Int} {i:Nat} (hi:i<l.length) (h:¬ rOk base l[i]):raised base l=none:=if_neg fun q=>h (q.2 _ (List.getElem_mem hi))
theorem Ug {base:Int} {l:List Int} (h : -1000000000≤base∧base≤1000000000) (h2:∀ i (hi:i<l.length),rOk base l[i]):raised base l=some (l.map fun x=>⟨1,base+x,ByteArray.empty⟩):=if_pos ⟨h,fun x hx=>by
 obtain⟨i,hi,rfl⟩:=List.getElem_of_mem hx
 exact h2 i hi⟩
theorem CX (x:Int):C9 x=true↔ -1000000000≤x∧x≤1000000000:=by simp[C9,BQ]
theorem X3 (base:Int) (l:List Int) (hl:l.length≤1048576):Ctr Tryz.prog 225 [.c (.v (.int .i64 (base))),.c (.sl (l.map intC))] (CJ (raised base l)):=by
 refine Ctr.mk Tryz.call225 Tryz.func225 rfl mixed Tryz.ntmps225 Tryz.results225 (by kernel_rfl) rfl fun hw=>?_
 simp only[go_sem]
 refine CallK.mk _ (Iu _) fun _=>?_
 rcases h1:C9 base with _ | _
 ·rw[Qe (by rw[← CX,h1]; simp)]
  simp only[go_sem,h1,CJ]
  try simp[CY]
 have hb:=(CX base).1 h1
 simp only[go_sem,h1]
 refine LoopH.mk [12] (A:=Nat) (fun x=>[(15,.c (.v (.int .i64 (x)))),(6,.c (.ref 0))]) (fun x=>[⟨72,3,((l.take x).map fun(x:Int)=>(⟨1,base+x,ByteArray.empty⟩:DVal)).map DVal.c,true,true⟩]) (fun x=>x≤l.length∧∀ m (h:m<l.length),m<x→rOk base l[m]) (fun x=>l.length-x) 0 (Head.sel [(0,false)] ⟨rfl,rfl,rfl,trivial⟩ rfl) ⟨Nat.zero_le _,fun m h h2=>by omega⟩ ?_
 rintro i ⟨hi,hok⟩
 simp only[go_sem]
 refine cndC.mk (fun h=>?_) (fun h=>?_)
 ·have hi':i<l.length:=by simp at h; omega
  simp only[go_sem,AA _ hi']
  refine CallK.mk _ (BK _ _ _) fun _=>?_
  rcases h2:BQ l[i] 0 2000000000 with _ | _
  ·rw[KZ hi' (fun q=>by have:=q.1; simp[BQ] at h2; omega)]
   simp only[go_sem,h2,CJ]
  have h2':0≤l[i]∧l[i]≤2000000000:=by simp[BQ] at h2; omega
  rcases h3:decide (base+l[i]>1000000000) with _ | _
  ·have hl2:i+1≤2147483648:=by omega
   simp only[go_sem,AA _ hi',h2,h3,hl2,wrap_i64 (n:=base+l[i]) (by omega) (by omega),wrap_i64 (n:=(i:Int)+1) (by omega) (by omega),List.length_take,Nat.min_eq_left hi]
   exact⟨i+1,Head.sel [(2,false)] ⟨rfl,rfl,Ib _ ⟨1,base+l[i],ByteArray.empty⟩,trivial⟩ (by rw[Hm _ hi',EQ]; rfl),⟨hi',fun m h4 h5=>by
    by_cases e:m=i
    ·subst e; exact⟨h2',by simp at h3; omega⟩
    ·exact hok m h4 (by omega)⟩,by omega⟩
  ·rw[KZ hi' (fun q=>by have:=q.2; simp at h3; omega)]
   simp only[go_sem,AA _ hi',h2,h3,wrap_i64 (n:=base+l[i]) (by omega) (by omega),CJ]
 ·have hi':i=l.length:=by simp at h; omega
  subst hi'
  rw[Ug hb fun m hm=>hok m hm hm]
  simp only[go_sem,CJ,List.take_length]
  try simp[AU,AC]
theorem Py (base:Int) (l:List Int) (hl:l.length≤1048576):Ctr Tryz.prog 209 [.c (.v (.int .i64 (base))),.c (.sl (l.map intC))] (CJ (raised base l)):=by
 refine Ctr.mk Tryz.call209 Tryz.func209 rfl mixed Tryz.ntmps209 Tryz.results209 (by kernel_rfl) rfl fun hw=>?_
 simp only[go_sem]
 refine LoopH.mk [8] (A:=Nat) (fun x=>[(7,.c (.v (.int .i64 (x)))),(6,.c (.ref 0))]) (fun x=>[⟨72,3,((l.take x).map fun(x:Int)=>(⟨1,base+x,ByteArray.empty⟩:DVal)).map DVal.c,true,true⟩]) (fun x=>x≤l.length∧(0<x→ -1000000000≤base∧base≤1000000000)∧∀ m (h:m<l.length),m<x→rOk base l[m]) (fun x=>l.length-x) 0 (Head.sel [(0,false)] ⟨rfl,rfl,rfl,trivial⟩ rfl) ⟨Nat.zero_le _,fun h=>by omega,fun m h h2=>by omega⟩ ?_
 rintro i ⟨hi,hbs,hok⟩
 simp only[go_sem]
 refine cndC.mk (fun h=>?_) (fun h=>?_)
 ·have hi':i<l.length:=by simp at h; omega
  simp only[go_sem]
  refine CallK.mk _ (Gt _) fun _=>?_
  rcases h1:C9 base with _ | _
  ·rw[Qe (by rw[← CX,h1]; simp)]
   simp only[go_sem,h1,CJ]
   try simp[CY]
  have hb:=(CX base).1 h1
  simp only[go_sem,h1,AA _ hi']
  refine CallK.mk _ (Am _ _ _) fun _=>?_
  rcases h2:BQ l[i] 0 2000000000 with _ | _
  ·rw[KZ hi' (fun q=>by have:=q.1; simp[BQ] at h2; omega)]
   simp only[go_sem,h2,CJ]
  have h2':0≤l[i]∧l[i]≤2000000000:=by simp[BQ] at h2; omega
  rcases h3:decide (base+l[i]>1000000000) with _ | _
  ·have hl2:i+1≤2147483648:=by omega
   simp only[go_sem,AA _ hi',h2,h3,hl2,wrap_i64 (n:=base+l[i]) (by omega) (by omega),wrap_i64 (n:=(i:Int)+1) (by omega) (by omega),List.length_take,Nat.min_eq_left hi]
   exact⟨i+1,Head.sel [(2,false)] ⟨rfl,rfl,Ib _ ⟨1,base+l[i],ByteArray.empty⟩,trivial⟩ (by rw[Hm _ hi',EQ]; rfl),⟨hi',fun _=>hb,fun m h4 h5=>by
    by_cases e:m=i
    ·subst e; exact⟨h2',by simp at h3; omega⟩
    ·exact hok m h4 (by omega)⟩,by omega⟩
  ·rw[KZ hi' (fun q=>by have:=q.2; simp at h3; omega)]
   simp only[go_sem,AA _ hi',h2,h3,wrap_i64 (n:=base+l[i]) (by omega) (by omega),CJ]
 ·have hi':i=l.length:=by simp at h; omega
  subst hi'
  simp only[go_sem,List.take_length]
  refine CallK.mk _ (Gt _) fun _=>?_
  rcases h1:C9 base with _ | _
  ·rw[Qe (by rw[← CX,h1]; simp)]
   have:l = []:=by
    by_cases h0:0<l.length
    ·have:=(CX base).2 (hbs h0); rw[h1] at this; cases this
    ·cases l<;>simp_all
   subst this
   simp only[go_sem,h1,CJ]
   try simp[CY]
  have hb:=(CX base).1 h1
  rw[Ug hb fun m hm=>hok m hm hm]
  simp only[go_sem,h1,CJ]
  try simp[AU,AC]
end Go.Proofs.YthoeeoddgkjkkaaGreat
