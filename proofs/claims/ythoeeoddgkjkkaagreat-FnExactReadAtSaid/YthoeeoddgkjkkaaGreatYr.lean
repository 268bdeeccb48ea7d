/- Walks: groups read. -/
import Derived.Test.YthoeeoddgkjkkaaGreatYq
namespace Go.Vm
set_option linter.unusedSimpArgs false
set_option linter.unusedVariables false
theorem Head.open {s:MS} (l i off:Nat) {ob:Ob} {row:List Cl} {ty:TypeId} {sz:Nat} {xs:List (List Cl)} (hob:Cc s.st l=some ob) (hwr:ob.wr=true) (hrow:ob.xs[i]?=some row) (hcell:row[off]?=some (.ow ty sz xs)) :
  Head s ⟨s.n,s.env,GY s.st l i off ob row ty sz xs⟩:=⟨rfl,fun w0 St0 St β a w hc=>by
 obtain⟨b,u,β',_,_,h,_⟩:=hc.openCell hob hwr hrow hcell
 exact⟨St,β',h⟩⟩
theorem Head.nilI {s:MS} (l i j e n:Nat) (ob:Ob) (row:List Cl) (hob:s.st[l]?=some ob) (hrow:ob.xs[i]?=some row) (h:row[j]?=some (.v (.slice none 0 0))) :
  Head s ⟨s.n,s.env,s.st.set l ⟨ob.ty,ob.sz,ob.xs.set i (row.set j (.ref s.st.length)),ob.wr,ob.live⟩ ++ [⟨e,n,[],true,true⟩]⟩:=⟨rfl,fun w0 St0 St β a w hc=>by
 obtain⟨β',h1,h2⟩:=hc.nilOb e n
 have hl:l<s.st.length:=(List.getElem?_eq_some_iff.1 hob).1
 have hi:i<ob.xs.length:=(List.getElem?_eq_some_iff.1 hrow).1
 have hj:j<row.length:=(List.getElem?_eq_some_iff.1 h).1
 have hri:ob.xs[i]=row:=(List.getElem?_eq_some_iff.1 hrow).2
 have hg:∀ (l2:Nat) (o2:Ob),(s.st.set l ⟨ob.ty,ob.sz,ob.xs.set i (row.set j (.ref s.st.length)),ob.wr,ob.live⟩ ++ [⟨e,n,[],true,true⟩])[l2]?=some o2→(l2=l∧o2=⟨ob.ty,ob.sz,ob.xs.set i (row.set j (.ref s.st.length)),ob.wr,ob.live⟩)∨(l2≠l∧(s.st ++ [(⟨e,n,[],true,true⟩:Ob)])[l2]?=some o2):=by
  intro l2 o2 h2
  by_cases e1:l2=l
  ·subst e1
   rw[List.getElem?_append_left (by simpa using hl),List.getElem?_set] at h2
   simp[hl] at h2
   exact .inl ⟨rfl,h2.symm⟩
  ·refine .inr ⟨e1, ?_⟩
   rw[List.getElem?_append] at h2 ⊢
   simp only[List.length_set] at h2
   split at h2
   ·rename_i hlt
    rw[List.getElem?_set,if_neg (fun e2=>e1 e2.symm)] at h2
    rw[if_pos hlt]; exact h2
   ·rename_i hlt
    rw[if_neg hlt]; exact h2
 have hg2:∀ (l2:Nat) (o2:Ob),(s.st ++ [(⟨e,n,[],true,true⟩:Ob)])[l2]?=some o2→∃ o3,(s.st.set l ⟨ob.ty,ob.sz,ob.xs.set i (row.set j (.ref s.st.length)),ob.wr,ob.live⟩ ++ [⟨e,n,[],true,true⟩])[l2]?=some o3∧o3.live=o2.live∧o3.sz=o2.sz∧o3.ty=o2.ty∧o3.xs.length=o2.xs.length:=by
  intro l2 o2 h2
  by_cases e1:l2=l
  ·subst e1
   rw[List.getElem?_append_left hl,hob] at h2
   cases h2
   exact⟨⟨ob.ty,ob.sz,ob.xs.set i (row.set j (.ref s.st.length)),ob.wr,ob.live⟩,by rw[List.getElem?_append_left (by simpa using hl),List.getElem?_set]; simp only[if_true,hl],rfl,rfl,rfl,by simp⟩
  ·refine⟨o2, ?_,rfl,rfl,rfl,rfl⟩
   rw[List.getElem?_append] at h2 ⊢
   simp only[List.length_set]
   split at h2
   ·rename_i hlt
    rw[if_pos hlt,List.getElem?_set,if_neg (fun e2=>e1 e2.symm)]; exact h2
   ·rename_i hlt
    rw[if_neg hlt]; exact h2
 have hr:∀ (l2:Nat) (u:Value),Aw w (s.st ++ [⟨e,n,[],true,true⟩]) β' l2 u→Aw w (s.st.set l ⟨ob.ty,ob.sz,ob.xs.set i (row.set j (.ref s.st.length)),ob.wr,ob.live⟩ ++ [⟨e,n,[],true,true⟩]) β' l2 u:=by
  intro l2 u hu
  unfold Aw at hu ⊢
  cases hq:(s.st ++ [(⟨e,n,[],true,true⟩:Ob)])[l2]? with
  | none=>simp[hq] at hu
  | some o2 =>
   obtain⟨o3,p1,p2,p3,p4,p5⟩:=hg2 l2 o2 hq
   simp only[hq] at hu
   simp only[p1]
   refine⟨hu.1,fun hlv=>?_⟩
   have h3:=hu.2 (by rw[← p2]; exact hlv)
   cases hβ:β' l2 with
   | none=>simp only[hβ] at h3 ⊢; exact⟨h3.1,List.eq_nil_of_length_eq_zero (by rw[p5,h3.2]; rfl)⟩
   | some b=>simp only[hβ] at h3 ⊢; simpa only[p3,p4,p5] using h3
 refine⟨St,β',h1.reTell _ _ hr (fun l2 i off u hu=>?_) (fun i u hu=>hu) (fun l2 o' hl2 hlv=>?_)⟩
 ·simp only[AVR] at hu ⊢
  cases hq:(s.st ++ [(⟨e,n,[],true,true⟩:Ob)])[l2]? with
  | none=>simp[hq] at hu
  | some o2 =>
   obtain⟨o3,p1,p2,p3,_⟩:=hg2 l2 o2 hq
   simp only[hq] at hu
   simp only[p1,p2,p3]
   exact hu
 ·rcases hg l2 o' hl2 with ⟨rfl,rfl⟩ | ⟨_,h3⟩
  ·refine⟨ob,by rw[List.getElem?_append_left hl]; exact hob,hlv,rfl,rfl,rfl,by simp,fun hx x hx2=>?_,fun k c' hk=>?_⟩
   ·rcases List.mem_or_eq_of_mem_set hx2 with hx2 | hx2
    ·exact hx x hx2
    ·rw[hx2,List.length_set]
     exact hx row (by rw[← hri]; exact List.getElem_mem hi)
   ·have e1:ob.xs.flatten=(ob.xs.take i).flatten++(row++(ob.xs.drop (i+1)).flatten):=by
     conv=>lhs; rw[← List.take_append_drop i ob.xs]
     rw[List.flatten_append,List.drop_eq_getElem_cons hi,List.flatten_cons,hri]
    have e2:(ob.xs.set i (row.set j (.ref s.st.length))).flatten=(ob.xs.take i).flatten++(row.set j (.ref s.st.length)++(ob.xs.drop (i+1)).flatten):=by
     rw[List.set_eq_take_append_cons_drop,if_pos hi,List.flatten_append,List.flatten_cons]
    rw[e2] at hk
    rw[e1]
    by_cases h3:k<(ob.xs.take i).flatten.length
    ·rw[List.getElem?_append_left h3] at hk ⊢
     exact⟨c',hk,fun _ h=>h,fun _=>rfl⟩
    ·rw[List.getElem?_append_right (by omega)] at hk ⊢
     generalize k-(ob.xs.take i).flatten.length=k2 at hk
     by_cases h4:k2<row.length
     ·rw[List.getElem?_append_left (by simpa using h4),List.getElem?_set] at hk
      rw[List.getElem?_append_left h4]
      by_cases e3:j=k2
      ·subst e3
       simp only[if_true,hj,Option.some.injEq] at hk
       subst hk
       exact⟨_,h,fun u hu=>hr _ u (h2 u hu),fun hc=>by simp[Ei] at hc⟩
      ·rw[if_neg e3] at hk
       exact⟨c',hk,fun _ h=>h,fun _=>rfl⟩
     ·rw[List.getElem?_append_right (by simp; omega),List.length_set] at hk
      rw[List.getElem?_append_right (by omega)]
      exact⟨c',hk,fun _ h=>h,fun _=>rfl⟩
  ·exact⟨o',h3,hlv,rfl,rfl,rfl,rfl,fun h=>h,fun k c hk=>⟨c,hk,fun _ h=>h,fun _=>rfl⟩⟩⟩
theorem Head.open' {s:MS} (l i off:Nat) {ob:Ob} {row:List Cl} {ty:TypeId} {sz:Nat} {xs zs:List (List Cl)} (hob:Cc s.st l=some ob) (hwr:ob.wr=true) (hrow:ob.xs[i]?=some row) (hcell:row[off]?=some (.ow ty sz xs)) (e:ob.xs.set i (row.set off (.ref s.st.length))=zs) :
  Head s ⟨s.n,s.env,s.st.set l ⟨ob.ty,ob.sz,zs,ob.wr,ob.live⟩ ++ [⟨ty,sz,xs,true,true⟩]⟩:=by
 subst e
 exact Head.open l i off hob hwr hrow hcell
theorem Head.nilI' {s:MS} (l i j e n:Nat) (ob:Ob) (row:List Cl) {zs:List (List Cl)} (hob:s.st[l]?=some ob) (hrow:ob.xs[i]?=some row) (h:row[j]?=some (.v (.slice none 0 0))) (he:ob.xs.set i (row.set j (.ref s.st.length))=zs) :
  Head s ⟨s.n,s.env,s.st.set l ⟨ob.ty,ob.sz,zs,ob.wr,ob.live⟩ ++ [⟨e,n,[],true,true⟩]⟩:=by
 subst he
 exact Head.nilI l i j e n ob row hob hrow h
end Go.Vm
namespace Go.Proofs.YthoeeoddgkjkkaaGreat
set_option linter.unusedSimpArgs false
set_option linter.unusedVariables false
open Go.Vm
set_option maxHeartbeats 2000000
set_option maxRecDepth 10000
theorem Ur (ids:List Int):rowsOf ids []=ids.map fun n=>(⟨n,[]⟩:DRow):=by
 unfold rowsOf
 apply List.ext_getElem
 ·simp
 ·intro i h1 h2
  simp at h1 h2 ⊢
  simp[h2]
def Ho (ids:List Int) (c:List (List DVal)) (x:Nat):DRow:=⟨(ids[x]?).getD 0,c.map fun v=>(v[x]?).getD rowsOf.zeroW⟩
theorem V7 (ids:List Int) (c:List (List DVal)):rowsOf ids c=(List.range ids.length).map (Ho ids c):=rfl
theorem Us {ids:List Int} {c:List (List DVal)} {x:Nat} (h:x<ids.length):(rowsOf ids c)[x]?=some (Ho ids c x):=by
 rw[V7,List.getElem?_map,List.getElem?_range h]; rfl
theorem Z_ {ids:List Int} {c:List (List DVal)} {l:List DVal} {x:Nat} (h:x<l.length):Ho ids (c ++ [l]) x=⟨(Ho ids c x).id,(Ho ids c x).l ++ [l[x]]⟩:=by
 simp only[Ho,List.map_append,List.map_cons,List.map_nil,List.getElem?_eq_getElem h,Option.getD_some]
def EY (ids:List Int) (c:List (List DVal)) (l:List DVal) (x:Nat):List DRow:=(rowsOf ids (c ++ [l])).take x++(rowsOf ids c).drop x
theorem V8 (ids:List Int) (c:List (List DVal)) (l:List DVal):EY ids c l 0=rowsOf ids c:=rfl
theorem aA (ids:List Int) (c:List (List DVal)) (l:List DVal):EY ids c l ids.length=rowsOf ids (c ++ [l]):=by
 unfold EY
 rw[List.take_of_length_le (by rw[CP]; omega),List.drop_eq_nil_of_le (by rw[CP]; omega),List.append_nil]
theorem P7 {ids:List Int} {c:List (List DVal)} {l:List DVal} {x:Nat} (h:x≤ids.length):(EY ids c l x).length=ids.length:=by
 simp only[EY,List.length_append,List.length_take,List.length_drop,CP]; omega
theorem aB {ids:List Int} {c:List (List DVal)} {l:List DVal} {x:Nat} (h:x<ids.length):(EY ids c l x)[x]?=some (Ho ids c x):=by
 unfold EY
 rw[List.getElem?_append_right (by simp[CP]; omega)]
 simp only[List.length_take,CP,Nat.min_eq_left (Nat.le_of_lt h),Nat.sub_self,List.getElem?_drop,Nat.add_zero]
 exact Us h
theorem aC {ids:List Int} {c:List (List DVal)} {l:List DVal} {x:Nat} (h:x<ids.length):(EY ids c l x).set x (Ho ids (c ++ [l]) x)=EY ids c l (x+1):=by
 have hx:x<(rowsOf ids (c ++ [l])).length:=by rw[CP]; exact h
 have hx2:x<(rowsOf ids c).length:=by rw[CP]; exact h
 have e1:(rowsOf ids (c ++ [l]))[x]=Ho ids (c ++ [l]) x:=by
  have:=Us (c:=c ++ [l]) h
  rw[List.getElem?_eq_getElem hx] at this
  exact Option.some.inj this
 unfold EY
 rw[List.take_succ_eq_append_getElem hx,e1,List.set_append_right _ _ (by simp; omega),List.length_take,Nat.min_eq_left (Nat.le_of_lt hx),Nat.sub_self,List.drop_eq_getElem_cons hx2,List.set_cons_zero,List.append_assoc]
 rfl
def qF (ids:List Int) (c:List (List DVal)) (l:List DVal) (x:Nat):List Ob:=if x<ids.length then
  [⟨3,1,ids.map intC,true,true⟩,⟨121,2,((EY ids c l x).map DRow.o).set x [.v (.int .i64 (Ho ids c x).id),.ref 2],true,true⟩,⟨72,3,(Ho ids c x).l.map DVal.c,true,true⟩]
 else [⟨3,1,ids.map intC,true,true⟩,⟨121,2,(EY ids c l x).map DRow.o,true,true⟩]
theorem h_ {ids:List Int} {c:List (List DVal)} {l:List DVal} {x:Nat} (h:x<ids.length):qF ids c l x = [⟨3,1,ids.map intC,true,true⟩,⟨121,2,((EY ids c l x).map DRow.o).set x [.v (.int .i64 (Ho ids c x).id),.ref 2],true,true⟩,⟨72,3,(Ho ids c x).l.map DVal.c,true,true⟩]:=if_pos h
theorem iC {ids:List Int} {c:List (List DVal)} {l:List DVal} {x:Nat} (h:¬ x<ids.length):qF ids c l x = [⟨3,1,ids.map intC,true,true⟩,⟨121,2,(EY ids c l x).map DRow.o,true,true⟩]:=if_neg h
theorem aF {n:Nat} {env:List (Nat×AV)} (ids:List Int) (c:List (List DVal)) (l:List DVal) (x:Nat) :
  Head ⟨n,env,[⟨3,1,ids.map intC,true,true⟩,⟨121,2,(EY ids c l x).map DRow.o,true,true⟩]⟩ ⟨n,env,qF ids c l x⟩:=by
 by_cases h:x<ids.length
 ·rw[h_ h]
  exact Head.open' (s:=⟨n,env,[⟨3,1,ids.map intC,true,true⟩,⟨121,2,(EY ids c l x).map DRow.o,true,true⟩]⟩) 1 x 1 (ob:=⟨121,2,(EY ids c l x).map DRow.o,true,true⟩) (row:=DRow.o (Ho ids c x)) rfl rfl
   (by simp only[List.getElem?_map,aB h,Option.map_some]) rfl rfl
 ·rw[iC h]
  exact⟨rfl,fun _ _ St β _ _ h=>⟨St,β,h⟩⟩
theorem iD (l:List Int):D_ (l.map byteC)=true:=by
 induction l with
 | nil=>rfl
 | cons c l ih=>simp only[List.map_cons,D_,ih,Bool.and_true]; rfl
theorem Ut {ids:List Int} {c:List (List DVal)} (hn:ids.length≤64) (hc:c.length≤1048576) (h2:∀ x∈c,∀ v∈x,v.s.size≤6):fitS BI (rowsOf ids c):=by
 refine⟨by rw[CP]; omega,fun r hr=>?_⟩
 rw[V7] at hr
 obtain⟨i,_,rfl⟩:=List.mem_map.1 hr
 refine⟨by simp only[Ho,List.length_map]; exact hc,fun v hv=>?_⟩
 simp only[Ho] at hv
 obtain⟨x,hx,rfl⟩:=List.mem_map.1 hv
 rw[MO]
 cases hq:x[i]? with
 | none=>simp[rowsOf.zeroW]
 | some v =>
  have:=h2 x hx v (List.mem_of_getElem? hq)
  simp only[Option.getD_some]; omega
theorem V9 {b:List Int} {ty k:Int} {l:List DVal} (h:F8 b ty k=some l):1≤ty∧ty≤2:=by
 unfold F8 at h
 split at h
 ·assumption
 ·cases h
theorem Oe {v:DVal} (h:BD v=true):v.s.size≤6:=by
 unfold BD at h
 split at h
 ·simp only[Bool.and_eq_true,beq_iff_eq] at h
  rw[dO h.2]
  exact Nat.zero_le _
 ·simp only[Bool.and_eq_true,decide_eq_true_eq] at h
  exact h.1.2
noncomputable def nP (cs b ids:List Int) (x:Option (List (List DVal)×Nat)):Option (List DRow):=match x with
 | none=>none
 | some (c,_)=>if CG cs (rowsOf ids c)=true∧Bq cs (rowsOf ids c)=b then some (rowsOf ids c) else none
theorem Qi (cs b ids:List Int):nP cs b ids none=none:=rfl
theorem V_ (cs b ids:List Int) (c:List (List DVal)) (p:Nat):nP cs b ids (some (c,p))=if CG cs (rowsOf ids c)=true∧Bq cs (rowsOf ids c)=b then some (rowsOf ids c) else none:=rfl
theorem S9 {cs b ids:List Int} {c:List (List DVal)} {p:Nat} (h:¬ (CG cs (rowsOf ids c)=true∧Bq cs (rowsOf ids c)=b)):nP cs b ids (some (c,p))=none:=by rw[V_,if_neg h]
theorem aG {cs b ids:List Int} {c:List (List DVal)} {p:Nat} (h:CG cs (rowsOf ids c)=true∧Bq cs (rowsOf ids c)=b):nP cs b ids (some (c,p))=some (rowsOf ids c):=by rw[V_,if_pos h]
def QA:Option (List DRow)→List Res
 | some l=>[.own 121 2 (l.map DRow.o) true,.val (.c (.v (.bool (true))))]
 | none=>[.own 121 2 [] true,.val (.c (.v (.bool (false))))]
theorem Uu (cs:List Int) (b:List Int) (hb:AY b) (hl:b.length≤1048576):Ctr Tryz.prog 107 [.c (.sl (cs.map intC)),.c (.sl (b.map byteC))] (QA (CU cs b)):=by
 rw[← Zh hb]
 refine Ctr.mk Tryz.call107 Tryz.func107 rfl mixed Tryz.ntmps107 Tryz.results107 (by kernel_rfl) rfl fun hw=>?_
 simp only[go_sem]
 have hg:=VD b 0 hb hl
 rcases h1:Du b 0 with _ | ⟨ids,q⟩<;>rw[h1] at hg<;>simp only[SB] at hg
 ·have e:Gl cs b=none:=by simp only[Gl,h1]
  rw[e]
  refine CallK.mk _ hg fun _=>?_
  simp only[go_sem,QA]
  try simp[AU,AC,CY]
 refine CallK.mk _ hg fun _=>?_
 obtain⟨n1,n2,n3⟩:=OV hb h1
 simp only[go_sem]
 refine CallK.mk _ (TN _) fun _=>?_
 rcases hc:FI cs with _ | _
 ·have e:Gl cs b=none:=by simp only[Gl,h1,hc]; rfl
  rw[e]
  simp only[go_sem,hc,QA]
  try simp[AU,AC,CY]
 have hcs3:cs.length≤3:=by
  simp only[FI,Bool.and_eq_true] at hc
  have:=hc.2
  simp[BQ] at this; omega
 have hall:Gl cs b=nP cs b ids (EE b cs ids q):=by
  simp only[Gl,h1]; exact if_pos hc
 rw[hall]
 simp only[go_sem,hc]
 refine LoopH.mk [32] (A:=Nat) (fun x=>[(35,.c (.v (.int .i64 (x)))),(9,.c (.ref 1))]) (fun x=>[⟨3,1,ids.map intC,true,true⟩,⟨121,2,((ids.take x).map fun n=>(⟨n,[]⟩:DRow)).map DRow.o,true,true⟩]) (fun x=>x≤ids.length) (fun x=>ids.length-x) 0 (Head.sel [(0,false),(1,false)] ⟨rfl,rfl,Eh _,rfl,trivial⟩ rfl) (Nat.zero_le _) ?_
 rintro i hi
 simp only[go_sem]
 refine cndC.mk (fun h=>?_) (fun h=>?_)
 ·have hi':i<ids.length:=by simp at h; omega
  have hl2:i+1≤2147483648:=by omega
  simp only[go_sem,AA _ hi',hi',hl2,List.length_take,Nat.min_eq_left hi,wrap_i64 (n:=(i:Int)+1) (by omega) (by omega)]
  have hnr:CY [[Cl.v (.int .i64 ids[i]),Cl.v (.slice none 0 0)]]=true:=rfl
  simp only[go_sem,hnr,AA _ hi',hi',hl2,List.length_take,Nat.min_eq_left hi,wrap_i64 (n:=(i:Int)+1) (by omega) (by omega)]
  have hlen:(((ids.take i).map fun n=>(⟨n,[]⟩:DRow)).map DRow.o).length=i:=by simp; omega
  refine⟨i+1,Head.trans (Head.nilI' 3 i 1 72 3 _ [.v (.int .i64 ids[i]),.v (.slice none 0 0)] (zs:=((ids.take i).map fun n=>(⟨n,[]⟩:DRow)).map DRow.o ++ [[.v (.int .i64 ids[i]),.ref 4]]) rfl ?row rfl ?set) (Head.selAbs [(0,false),(3,true),(4,false)] 2 1 ⟨rfl,rfl,Eh _,I4 DRow.o_nr _ _ rfl,rfl,trivial⟩
   ⟨i,((ids.take i).map fun n=>(⟨n,[]⟩:DRow)).map DRow.o ++ [DRow.o ⟨ids[i],[]⟩],[.v (.int .i64 ids[i]),.ref 2],DRow.o ⟨ids[i],[]⟩,_,⟨Nat.lt_succ_self 1,rfl, ?rn,by simp; omega,rfl⟩,
    ⟨rfl,rfl,rfl,rfl,rfl,rfl,rfl,by simp[GI],fun l hl=>by simp[GI] at hl; omega⟩,⟨rfl, ?tr⟩, ?eq⟩),hi',by omega⟩
  case row=>simp only; rw[List.getElem?_append_right (by omega),hlen]; simp
  case set=>simp only; rw[List.set_append_right _ _ (by omega),hlen]; simp
  case rn =>
   have:=Iz DRow.o_nr [(0,false),(3,true),(4,false)] ((ids.take i).map fun n=>(⟨n,[]⟩:DRow)) [.v (.int .i64 ids[i]),.ref 4] (DRow.o ⟨ids[i],[]⟩)
   rw[show ((ids.take i).map fun n=>(⟨n,[]⟩:DRow)).length=i by simp; omega] at this
   exact this
  case tr =>
   unfold BN
   have:=CE (f:=DRow.o) ((ids.take i).map fun n=>(⟨n,[]⟩:DRow)) ⟨ids[i],[]⟩
   rw[show ((ids.take i).map fun n=>(⟨n,[]⟩:DRow)).length=i by simp; omega] at this
   rw[this]
   exact all2 (Ad (Bj _)) (Ad (AX _))
  case eq =>
   unfold BN
   have:=CE (f:=DRow.o) ((ids.take i).map fun n=>(⟨n,[]⟩:DRow)) ⟨ids[i],[]⟩
   rw[show ((ids.take i).map fun n=>(⟨n,[]⟩:DRow)).length=i by simp; omega] at this
   rw[this,Hm (fun n=>(⟨n,[]⟩:DRow)) hi']
   rfl
 ·have hi':i=ids.length:=by simp at h; omega
  subst hi'
  simp only[go_sem,List.take_length]
  have e0:(ids.map fun n=>(⟨n,[]⟩:DRow))=rowsOf ids []:=(Ur ids).symm
  rw[e0]
  refine LoopH.mk [] (A:=Nat×Nat×List (List DVal)) (fun x=>[(47,.c (.v (.int .i64 (x.1)))),(7,.c (.v (.int .i64 ((x.2.1:Int)))))]) (fun x=>[⟨3,1,ids.map intC,true,true⟩,⟨121,2,(rowsOf ids x.2.2).map DRow.o,true,true⟩]) (fun x=>x.1≤cs.length∧x.2.2.length=x.1∧((∀ c∈x.2.2,c.length=ids.length)∧(∀ c∈x.2.2,∀ v∈c,v.s.size≤6))∧x.2.1≤b.length∧(ids = []→x=(0,q,[]))∧(ids≠ []→(EZ b ids.length (cs.drop x.1) x.2.1).map (fun y=>(x.2.2++y.1,y.2))=EZ b ids.length cs q)) (fun x=>cs.length-x.1) (0,q,[]) (Head.sel [(0,false),(1,true)] ⟨rfl,rfl,Eh _,Ef (AX _),trivial⟩ ?h0) ⟨Nat.zero_le _,rfl,⟨by simp,by simp⟩,n1,fun _=>rfl,fun _=>by simp⟩ ?_
  case h0 =>
   show (⟨125,_,[_,⟨121,2,((rowsOf ids []).map DRow.o).map (fun x=>x.map (NQ [(0,false),(1,true)])),true,true⟩]⟩:MS)=_
   rw[Ee (AX _)]; rfl
  rintro⟨k,p,c⟩ ⟨hk,hck,⟨hcl,hsz⟩,hpb,hemp,hne⟩
  dsimp only at hk hck hcl hsz hpb hemp hne
  simp only[go_sem]
  refine cndC.mk (fun h=>?_) (fun h=>?_)
  ·have hk':k<cs.length:=by simp at h; omega
   simp only[go_sem,AA _ hk']
   rcases hi0:((ids.length:Int)==0) with _ | _
   rotate_left
   ·have hids:ids = []:=by simpa using hi0
    have hx:=hemp hids
    simp only[Prod.mk.injEq] at hx
    obtain⟨_,hp0,hc0⟩:=hx
    have hgc:EE b cs ids q=some (c,p):=by rw[hc0,hp0]; exact if_pos hids
    rw[hgc]
    simp only[go_sem,hi0]
    refine BorK.mk (args:=[.c (.sl (cs.map intC)),.c (.sl ((rowsOf ids c).map DRow.c))]) _ (by simp only[Bg,D9,go_sem]) rfl (Kq cs (rowsOf ids c) (by rw[CP]; omega)) fun _=>?_
    rcases hok:CG cs (rowsOf ids c) with _ | _
    ·have hno:¬ (CG cs (rowsOf ids c)=true∧Bq cs (rowsOf ids c)=b):=fun q=>by rw[hok] at q; cases q.1
     rw[S9 hno]
     simp only[go_sem,hok,QA]
     try simp[AU,AC,CY]
    simp only[go_sem,hok]
    refine BorK.mk (args:=[.c (.sl (cs.map intC)),.c (.sl ((rowsOf ids c).map DRow.c))]) [.own 5 1 ((Bq cs (rowsOf ids c)).map byteC) true] (by simp only[Bg,D9,go_sem]) (by simp only[List.all_cons,K_,List.all_nil,Bool.and_true,iD]) (MI cs (rowsOf ids c) (Ut n2 (by omega) hsz)) fun _=>?_
    simp only[go_sem]
    refine CallK.mk _ (IP (Bq cs (rowsOf ids c)) b) fun _=>?_
    rcases h6:decide (Bq cs (rowsOf ids c)=b) with _ | _
    ·have hno:¬ (CG cs (rowsOf ids c)=true∧Bq cs (rowsOf ids c)=b):=fun q=>by simp at h6; exact h6 q.2
     rw[S9 hno]
     simp only[go_sem,hok,h6,QA]
     try simp[AU,AC,CY]
    ·have hyes:CG cs (rowsOf ids c)=true∧Bq cs (rowsOf ids c)=b:=⟨hok,by simpa using h6⟩
     rw[aG hyes]
     simp only[go_sem,hok,h6,QA,AX]
     try simp[AU,AC]
   have hids:ids≠ []:=by rintro rfl; simp at hi0
   have hn0:0<ids.length:=List.length_pos_iff.2 hids
   have hne:=hne hids
   have hgc:EE b cs ids q=EZ b ids.length cs q:=if_neg hids
   rw[hgc]
   rw[KY hk',EZ] at hne
   simp only[go_sem,hi0]
   have hg2:=EN b p hb hl
   rcases h3:A8 b p with _ | ⟨m,p2⟩<;>rw[h3] at hg2 hne<;>simp only[Pi] at hg2
   ·refine CallK.mk _ hg2 fun _=>?_
    simp only[Option.map_none] at hne
    rw[← hne,Qi]
    simp only[go_sem,QA]
    try simp[AU,AC,CY]
   refine CallK.mk _ hg2 fun _=>?_
   dsimp only at hne
   obtain⟨_,z2,z3,z4,z5,_⟩:=FH hb h3
   have hw1:IntKind.i64.wrap ((b.length:Int)-(p2:Int))=(b.length:Int)-(p2:Int):=wrap_i64 (by omega) (by omega)
   simp only[go_sem,hw1]
   refine CallK.mk _ (BK _ _ _) fun _=>?_
   rcases h4:BQ m 0 ((b.length:Int)-(p2:Int)) with _ | _
   ·rw[if_neg (by simp[BQ] at h4; omega)] at hne
    simp only[Option.map_none] at hne
    rw[← hne,Qi]
    simp only[go_sem,h4,QA]
    try simp[AU,AC,CY]
   have h4':0≤m∧m≤(b.length:Int)-(p2:Int):=by simp[BQ] at h4; omega
   rw[if_pos h4'] at hne
   obtain⟨M,rfl⟩:=Int.eq_ofNat_of_zero_le h4'.1
   rw[Int.toNat_natCast] at hne
   have q1:=FQ (k:=.i64) (n:=(p2:Int)) (m:=p2) (by omega)
   have q2:=FQ (k:=.i64) (n:=(p2:Int)+(M:Int)) (m:=p2+M) (by omega)
   have q5:p2≤p2+M:=by omega
   have q6:p2+M≤b.length:=by omega
   have q7:p2+M-p2=M:=by omega
   have hbd:AY ((b.drop p2).take M):=Md hb _ _
   have hdc:=X9 ((b.drop p2).take M) cs[k] (ids.length:Int) hbd (by simp; omega)
   simp only[go_sem,h4,q1,q2,q5,q6,q7,Ar,← List.map_drop,← List.map_take,wrap_i64 (n:=(p2:Int)+(M:Int)) (by omega) (by omega)]
   rcases h5:F8 ((b.drop p2).take M) cs[k] (ids.length:Int) with _ | l<;>rw[h5] at hdc hne<;>simp only[CJ] at hdc
   ·refine CallK.mk _ hdc fun _=>?_
    simp only[Option.map_none] at hne
    rw[← hne,Qi]
    simp only[go_sem,QA]
    try simp[AU,AC,CY]
   refine CallK.mk _ hdc fun _=>?_
   dsimp only at hne
   obtain⟨y1,y2,y3⟩:=QX hbd h5
   have hll:l.length=ids.length:=by omega
   simp only[go_sem,CP]
   refine LoopH.mk [] (A:=Nat) (fun x=>[(89,.c (.v (.int .i64 (x))))]) (fun x=>qF ids c l x) (fun x=>x≤ids.length) (fun x=>ids.length-x) 0 (Head.trans (Head.sel [(0,false),(1,true)] ⟨rfl,rfl,Eh _,Ef (AX _),trivial⟩ (by
    show (⟨125,_,[_,⟨121,2,((rowsOf ids c).map DRow.o).map (fun x=>x.map (NQ [(0,false),(1,true)])),true,true⟩]⟩:MS)=_
    rw[Ee (AX _),V8]; rfl)) (aF ids c l 0)) (Nat.zero_le _) ?_
   rintro x hx
   simp only[go_sem]
   refine cndC.mk (fun h=>?_) (fun h=>?_)
   ·have hx':x<ids.length:=by simp at h; omega
    have hxl:x<l.length:=by omega
    have hgl:(EY ids c l x).length=ids.length:=P7 hx
    have hrow:(((EY ids c l x).map DRow.o).set x [.v (.int .i64 (Ho ids c x).id),.ref 2])[x]?=some [.v (.int .i64 (Ho ids c x).id),.ref 2]:=by
     rw[List.getElem?_set]; simp[hgl,hx']
    rw[h_ hx']
    simp only[go_sem,AA _ hxl,hgl,hx',hrow,List.length_set]
    have hal:(Ho ids c x).l.length+1≤2147483648:=by simp only[Ho,List.length_map]; omega
    refine DrawK.mkE ?_
    simp only[go_sem,AA _ hxl,hgl,hx',hrow,List.length_set,hal,wrap_i64 (n:=(x:Int)+1) (by omega) (by omega)]
    have hnx:(EY ids c l (x+1)).map DRow.o=((EY ids c l x).map DRow.o).set x (DRow.o (Ho ids (c ++ [l]) x)):=by rw[← aC hx',List.map_set]
    have hrs:DRow.o (Ho ids (c ++ [l]) x) = [.v (.int .i64 (Ho ids c x).id),.ow 72 3 ((Ho ids c x).l.map DVal.c ++ [l[x].c])]:=by rw[Z_ hxl,← EQ]; rfl
    have hR:((EY ids c l (x+1)).map DRow.o).set x [.v (.int .i64 (Ho ids c x).id),.ow 72 3 ((Ho ids c x).l.map DVal.c ++ [l[x].c])]=(EY ids c l (x+1)).map DRow.o:=by rw[hnx,List.set_set,hrs]
    refine⟨x+1,Head.trans (Head.selAbs [(0,false),(1,true),(4,false)] 2 1 ⟨rfl,rfl,Eh _, ?inn,Ib _ _,trivial⟩
     ⟨x,(EY ids c l (x+1)).map DRow.o,[.v (.int .i64 (Ho ids c x).id),.ref 2],[.v (.int .i64 (Ho ids c x).id),.ow 72 3 ((Ho ids c x).l.map DVal.c ++ [l[x].c])],_,⟨Nat.lt_succ_self 1,rfl, ?rn, ?len,rfl⟩,
      ⟨rfl,rfl,rfl,rfl,rfl,rfl, ?nr,by simp[GI],fun l hl=>by simp[GI] at hl; omega⟩,⟨rfl, ?tr⟩, ?eq⟩) (aF ids c l (x+1)),hx',by omega⟩
    case inn =>
     show ((((EY ids c l x).map DRow.o).set x [.v (.int .i64 (Ho ids c x).id),.ref 2]).set x [.v (.int .i64 (Ho ids c x).id),.ref 4]).all (fun x=>x.all (fQ [(0,false),(1,true),(4,false)]))=true
     rw[List.set_set]
     refine List.all_eq_true.2 fun y hy=>?_
     rcases List.mem_or_eq_of_mem_set hy with hy | rfl
     ·exact List.all_eq_true.1 (Ef (AX _)) y hy
     ·rfl
    case rn =>
     show ((((EY ids c l x).map DRow.o).set x [.v (.int .i64 (Ho ids c x).id),.ref 2]).set x [.v (.int .i64 (Ho ids c x).id),.ref 4]).map (fun x=>x.map (NQ [(0,false),(1,true),(4,false)]))=_
     rw[List.set_set,List.map_set,Ee (AX _),hnx,List.set_set]
     rfl
    case len=>simp only[List.length_map]; rw[P7 (by omega)]; exact hx'
    case nr=>rw[← EQ]; exact Bl _
    case tr =>
     unfold BN
     rw[hR]
     exact all2 (Ad (Bj _)) (Ad (AX _))
    case eq =>
     unfold BN
     rw[hR]
     rfl
   ·have hx':x=ids.length:=by simp at h; omega
    rw[iC (by omega)]
    simp only[go_sem]
    subst hx'
    have hty:=V9 h5
    have hta:=Bv (l:=l) (by omega)
    simp only[go_sem,aA,wrap_i64 (n:=(k:Int)+1) (by omega) (by omega),wrap_i64 (n:=(p2:Int)+(M:Int)) (by omega) (by omega)]
    exact⟨(k+1,p2+M,c ++ [l]),Head.sel [(0,false),(1,true)] ⟨rfl,rfl,Eh _,Ef (AX _),trivial⟩ (by
     show (⟨125,_,[_,⟨121,2,((rowsOf ids (c ++ [l])).map DRow.o).map (fun x=>x.map (NQ [(0,false),(1,true)])),true,true⟩]⟩:MS)=_
     rw[Ee (AX _)]; rfl),⟨hk',by simp[hck],⟨fun y hy=>by
      rcases List.mem_append.1 hy with hy | hy
      ·exact hcl y hy
      ·rw[List.mem_singleton.1 hy]; exact hll,fun y hy v hv=>by
      rcases List.mem_append.1 hy with hy | hy
      ·exact hsz y hy v hv
      ·rw[List.mem_singleton.1 hy] at hv; exact Oe (hta.2.2 v hv).1⟩,q6,fun q=>absurd q hids,fun _=>by
     rw[← hne,Option.map_map]; congr 1; funext y; simp⟩,by simp only; omega⟩
  ·have hk':k=cs.length:=by simp at h; omega
   have hgc:EE b cs ids q=some (c,p):=by
    by_cases hids:ids = []
    ·have hx:=hemp hids
     simp only[Prod.mk.injEq] at hx
     obtain⟨_,hp0,hc0⟩:=hx
     rw[hc0,hp0]; exact if_pos hids
    ·have hne:=hne hids
     rw[hk',List.drop_length,EZ] at hne
     simp only[Option.map_some,List.append_nil] at hne
     rw[hne]; exact if_neg hids
   rw[hgc]
   simp only[go_sem]
   refine BorK.mk (args:=[.c (.sl (cs.map intC)),.c (.sl ((rowsOf ids c).map DRow.c))]) _ (by simp only[Bg,D9,go_sem]) rfl (Kq cs (rowsOf ids c) (by rw[CP]; omega)) fun _=>?_
   rcases hok:CG cs (rowsOf ids c) with _ | _
   ·have hno:¬ (CG cs (rowsOf ids c)=true∧Bq cs (rowsOf ids c)=b):=fun q=>by rw[hok] at q; cases q.1
    rw[S9 hno]
    simp only[go_sem,hok,QA]
    try simp[AU,AC,CY]
   simp only[go_sem,hok]
   refine BorK.mk (args:=[.c (.sl (cs.map intC)),.c (.sl ((rowsOf ids c).map DRow.c))]) [.own 5 1 ((Bq cs (rowsOf ids c)).map byteC) true] (by simp only[Bg,D9,go_sem]) (by simp only[List.all_cons,K_,List.all_nil,Bool.and_true,iD]) (MI cs (rowsOf ids c) (Ut n2 (by omega) hsz)) fun _=>?_
   simp only[go_sem]
   refine CallK.mk _ (IP (Bq cs (rowsOf ids c)) b) fun _=>?_
   rcases h6:decide (Bq cs (rowsOf ids c)=b) with _ | _
   ·have hno:¬ (CG cs (rowsOf ids c)=true∧Bq cs (rowsOf ids c)=b):=fun q=>by simp at h6; exact h6 q.2
    rw[S9 hno]
    simp only[go_sem,hok,h6,QA]
    try simp[AU,AC,CY]
   ·have hyes:CG cs (rowsOf ids c)=true∧Bq cs (rowsOf ids c)=b:=⟨hok,by simpa using h6⟩
    rw[aG hyes]
    simp only[go_sem,hok,h6,QA,AX]
    try simp[AU,AC]
end Go.Proofs.YthoeeoddgkjkkaaGreat
