/- A part. -/
import Derived.Test.YtnfbaclikokapaaGreatYq
set_option linter.unusedSimpArgs false
set_option linter.unusedVariables false
set_option maxHeartbeats 2000000
set_option maxRecDepth 10000
namespace Go.Vm
theorem Head.open {s:MS} (l i off:Nat) {ob:Ob} {row:List Cl} {ty:TypeId} {sz:Nat} {xs:List (List Cl)} (hob:CO s.st l=some ob) (hwr:ob.wr=true) (hrow:ob.xs[i]?=some row) (hcell:row[off]?=some (.ow ty sz xs)) :
  Head s ⟨s.n,s.env,IX s.st l i off ob row ty sz xs⟩:=⟨rfl,fun w0 St0 St β a w hc=>by
 obtain⟨b,u,β',_,_,h,_⟩:=hc.openCell hob hwr hrow hcell
 exact⟨St,β',h⟩⟩
theorem Head.nilI {s:MS} (l i j e n:Nat) (ob:Ob) (row:List Cl) (hob:s.st[l]?=some ob) (hrow:ob.xs[i]?=some row) (h:row[j]?=some (.v (.slice none 0 0))) :
  Head s ⟨s.n,s.env,s.st.set l ⟨ob.ty,ob.sz,ob.xs.set i (row.set j (.ref s.st.length)),ob.wr,ob.live⟩ ++ [⟨e,n,[],true,true⟩]⟩:=⟨rfl,fun w0 St0 St β a w hc=>by
 obtain⟨β',h1,h2⟩:=hc.nilOb e n
 have hl:l<s.st.length:=(az.1 hob).1
 have hi:i<ob.xs.length:=(az.1 hrow).1
 have hj:j<row.length:=(az.1 h).1
 have hri:ob.xs[i]=row:=(az.1 hrow).2
 have hg:∀ (l2:Nat) (o2:Ob),(s.st.set l ⟨ob.ty,ob.sz,ob.xs.set i (row.set j (.ref s.st.length)),ob.wr,ob.live⟩ ++ [⟨e,n,[],true,true⟩])[l2]?=some o2→(l2=l∧o2=⟨ob.ty,ob.sz,ob.xs.set i (row.set j (.ref s.st.length)),ob.wr,ob.live⟩)∨(l2≠l∧(s.st ++ [(⟨e,n,[],true,true⟩:Ob)])[l2]?=some o2):=by
  intro l2 o2 h2
  by_cases e1:l2=l
  ·subst e1
   rw[aZ (by simpa using hl),bZ] at h2
   simp[hl] at h2
   exact .inl ⟨rfl,h2.symm⟩
  ·refine .inr ⟨e1, ?_⟩
   rw[abq] at h2 ⊢
   simp only[bu] at h2
   split at h2
   ·rename_i hlt
    rw[bZ,aV (fun e2=>e1 e2.symm)] at h2
    rw[bz hlt]; exact h2
   ·rename_i hlt
    rw[aV hlt]; exact h2
 have hg2:∀ (l2:Nat) (o2:Ob),(s.st ++ [(⟨e,n,[],true,true⟩:Ob)])[l2]?=some o2→∃ o3,(s.st.set l ⟨ob.ty,ob.sz,ob.xs.set i (row.set j (.ref s.st.length)),ob.wr,ob.live⟩ ++ [⟨e,n,[],true,true⟩])[l2]?=some o3∧o3.live=o2.live∧o3.sz=o2.sz∧o3.ty=o2.ty∧o3.xs.length=o2.xs.length:=by
  intro l2 o2 h2
  by_cases e1:l2=l
  ·subst e1
   rw[aZ hl,hob] at h2
   cases h2
   exact⟨⟨ob.ty,ob.sz,ob.xs.set i (row.set j (.ref s.st.length)),ob.wr,ob.live⟩,by rw[aZ (by simpa using hl),bZ]; simp only[bD,hl],rfl,rfl,rfl,by simp⟩
  ·refine⟨o2, ?_,rfl,rfl,rfl,rfl⟩
   rw[abq] at h2 ⊢
   simp only[bu]
   split at h2
   ·rename_i hlt
    rw[bz hlt,bZ,aV (fun e2=>e1 e2.symm)]; exact h2
   ·rename_i hlt
    rw[aV hlt]; exact h2
 have hr:∀ (l2:Nat) (u:Value),A_ w (s.st ++ [⟨e,n,[],true,true⟩]) β' l2 u→A_ w (s.st.set l ⟨ob.ty,ob.sz,ob.xs.set i (row.set j (.ref s.st.length)),ob.wr,ob.live⟩ ++ [⟨e,n,[],true,true⟩]) β' l2 u:=by
  intro l2 u hu
  unfold A_ at hu ⊢
  cases hq:(s.st ++ [(⟨e,n,[],true,true⟩:Ob)])[l2]? with
  | none=>simp[hq] at hu
  | some o2 =>
   obtain⟨o3,p1,p2,p3,p4,p5⟩:=hg2 l2 o2 hq
   simp only[hq] at hu
   simp only[p1]
   refine⟨hu.1,fun hlv=>?_⟩
   have h3:=hu.2 (by rw[← p2]; exact hlv)
   cases hβ:β' l2 with
   | none=>simp only[hβ] at h3 ⊢; exact⟨h3.1,zu (by rw[p5,h3.2]; rfl)⟩
   | some b=>simp only[hβ] at h3 ⊢; simpa only[p3,p4,p5] using h3
 refine⟨St,β',h1.reTell _ _ hr (fun l2 i off u hu=>?_) (fun i u hu=>hu) (fun l2 o' hl2 hlv=>?_)⟩
 ·simp only[AVR] at hu ⊢
  cases hq:(s.st ++ [(⟨e,n,[],true,true⟩:Ob)])[l2]? with
  | none=>simp[hq] at hu
  | some o2 =>
   obtain⟨o3,p1,p2,p3,_⟩:=hg2 l2 o2 hq
   simp only[hq] at hu
   simp only[p1,p2,p3]
   exact hu
 ·rcases hg l2 o' hl2 with ⟨rfl,rfl⟩ | ⟨_,h3⟩
  ·refine⟨ob,by rw[aZ hl]; exact hob,hlv,rfl,rfl,rfl,by simp,fun hx x hx2=>?_,fun k c' hk=>?_⟩
   ·rcases aaH hx2 with hx2 | hx2
    ·exact hx x hx2
    ·rw[hx2,bu]
     exact hx row (by rw[← hri]; exact aj hi)
   ·have e1:ob.xs.flatten=(ob.xs.take i).flatten++(row++(ob.xs.drop (i+1)).flatten):=by
     conv=>lhs; rw[← List.take_append_drop i ob.xs]
     rw[aaP,aG hi,bT,hri]
    have e2:(ob.xs.set i (row.set j (.ref s.st.length))).flatten=(ob.xs.take i).flatten++(row.set j (.ref s.st.length)++(ob.xs.drop (i+1)).flatten):=by
     rw[List.set_eq_take_append_cons_drop,bz hi,aaP,bT]
    rw[e2] at hk
    rw[e1]
    by_cases h3:k<(ob.xs.take i).flatten.length
    ·rw[aZ h3] at hk ⊢
     exact⟨c',hk,fun _ h=>h,fun _=>rfl⟩
    ·rw[aX (by omega)] at hk ⊢
     generalize k-(ob.xs.take i).flatten.length=k2 at hk
     by_cases h4:k2<row.length
     ·rw[aZ (by simpa using h4),bZ] at hk
      rw[aZ h4]
      by_cases e3:j=k2
      ·subst e3
       simp only[bD,hj,ah] at hk
       subst hk
       exact⟨_,h,fun u hu=>hr _ u (h2 u hu),fun hc=>by simp[E8] at hc⟩
      ·rw[aV e3] at hk
       exact⟨c',hk,fun _ h=>h,fun _=>rfl⟩
     ·rw[aX (by simp; omega),bu] at hk
      rw[aX (by omega)]
      exact⟨c',hk,fun _ h=>h,fun _=>rfl⟩
  ·exact⟨o',h3,hlv,rfl,rfl,rfl,rfl,fun h=>h,fun k c hk=>⟨c,hk,fun _ h=>h,fun _=>rfl⟩⟩⟩
theorem Head.open' {s:MS} (l i off:Nat) {ob:Ob} {row:List Cl} {ty:TypeId} {sz:Nat} {xs zs:List (List Cl)} (hob:CO s.st l=some ob) (hwr:ob.wr=true) (hrow:ob.xs[i]?=some row) (hcell:row[off]?=some (.ow ty sz xs)) (e:ob.xs.set i (row.set off (.ref s.st.length))=zs) :
  Head s ⟨s.n,s.env,s.st.set l ⟨ob.ty,ob.sz,zs,ob.wr,ob.live⟩ ++ [⟨ty,sz,xs,true,true⟩]⟩:=by
 subst e
 exact Head.open l i off hob hwr hrow hcell
theorem Head.nilI' {s:MS} (l i j e n:Nat) (ob:Ob) (row:List Cl) {zs:List (List Cl)} (hob:s.st[l]?=some ob) (hrow:ob.xs[i]?=some row) (h:row[j]?=some (.v (.slice none 0 0))) (he:ob.xs.set i (row.set j (.ref s.st.length))=zs) :
  Head s ⟨s.n,s.env,s.st.set l ⟨ob.ty,ob.sz,zs,ob.wr,ob.live⟩ ++ [⟨e,n,[],true,true⟩]⟩:=by
 subst he
 exact Head.nilI l i j e n ob row hob hrow h
end Go.Vm
open Go.Proofs.Tryz
namespace Go.Proofs.YtnfbaclikokapaaGreat
open Go.Vm
theorem Yv (ids:List Int):rowsOf ids []=ids.map fun n=>(⟨n,[]⟩:DRow):=by
 unfold rowsOf
 apply List.ext_getElem
 ·simp
 ·intro i h1 h2
  simp at h1 h2 ⊢
  simp[h2]
def Jd (ids:List Int) (c:List (List DVal)) (x:Nat):DRow:=⟨(ids[x]?).getD 0,c.map fun v=>(v[x]?).getD rowsOf.zeroW⟩
theorem fC (ids:List Int) (c:List (List DVal)):rowsOf ids c=(List.range ids.length).map (Jd ids c):=rfl
theorem Yw {ids:List Int} {c:List (List DVal)} {x:Nat} (h:x<ids.length):(rowsOf ids c)[x]?=some (Jd ids c x):=by
 rw[fC,lD,List.getElem?_range h]; rfl
theorem qG {ids:List Int} {c:List (List DVal)} {l:List DVal} {x:Nat} (h:x<l.length):Jd ids (c ++ [l]) x=⟨(Jd ids c x).id,(Jd ids c x).l ++ [l[x]]⟩:=by
 simp only[Jd,Vp,XA,dh,aA h,aJ]
def FV (ids:List Int) (c:List (List DVal)) (l:List DVal) (x:Nat):List DRow:=(rowsOf ids (c ++ [l])).take x++(rowsOf ids c).drop x
theorem fD (ids:List Int) (c:List (List DVal)) (l:List DVal):FV ids c l 0=rowsOf ids c:=rfl
theorem qH (ids:List Int) (c:List (List DVal)) (l:List DVal):FV ids c l ids.length=rowsOf ids (c ++ [l]):=by
 unfold FV
 rw[aaC (by rw[Cm]; omega),List.drop_eq_nil_of_le (by rw[Cm]; omega),bF]
theorem UO {ids:List Int} {c:List (List DVal)} {l:List DVal} {x:Nat} (h:x≤ids.length):(FV ids c l x).length=ids.length:=by
 simp only[FV,aW,bC,yT,Cm]; omega
theorem qI {ids:List Int} {c:List (List DVal)} {l:List DVal} {x:Nat} (h:x<ids.length):(FV ids c l x)[x]?=some (Jd ids c x):=by
 unfold FV
 rw[aX (by simp[Cm]; omega)]
 simp only[bC,Cm,X4 (Nat.le_of_lt h),dM,aba,abB]
 exact Yw h
theorem qJ {ids:List Int} {c:List (List DVal)} {l:List DVal} {x:Nat} (h:x<ids.length):(FV ids c l x).set x (Jd ids (c ++ [l]) x)=FV ids c l (x+1):=by
 have hx:x<(rowsOf ids (c ++ [l])).length:=by rw[Cm]; exact h
 have hx2:x<(rowsOf ids c).length:=by rw[Cm]; exact h
 have e1:(rowsOf ids (c ++ [l]))[x]=Jd ids (c ++ [l]) x:=by
  have:=Yw (c:=c ++ [l]) h
  rw[aA hx] at this
  exact rC this
 unfold FV
 rw[aas hx,e1,aa5 _ _ (by simp; omega),bC,X4 (Nat.le_of_lt hx),dM,aG hx2,List.set_cons_zero,bM]
 rfl
def ADE (ids:List Int) (c:List (List DVal)) (l:List DVal) (x:Nat):List Ob:=if x<ids.length then
  [⟨3,1,ids.map intC,true,true⟩,⟨204,2,((FV ids c l x).map DRow.o).set x [.v (.int .i64 (Jd ids c x).id),.ref 2],true,true⟩,⟨68,3,(Jd ids c x).l.map DVal.c,true,true⟩]
 else [⟨3,1,ids.map intC,true,true⟩,⟨204,2,(FV ids c l x).map DRow.o,true,true⟩]
theorem xK {ids:List Int} {c:List (List DVal)} {l:List DVal} {x:Nat} (h:x<ids.length):ADE ids c l x = [⟨3,1,ids.map intC,true,true⟩,⟨204,2,((FV ids c l x).map DRow.o).set x [.v (.int .i64 (Jd ids c x).id),.ref 2],true,true⟩,⟨68,3,(Jd ids c x).l.map DVal.c,true,true⟩]:=bz h
theorem xM {ids:List Int} {c:List (List DVal)} {l:List DVal} {x:Nat} (h:¬ x<ids.length):ADE ids c l x = [⟨3,1,ids.map intC,true,true⟩,⟨204,2,(FV ids c l x).map DRow.o,true,true⟩]:=aV h
theorem qK {n:Nat} {env:List (Nat×AV)} (ids:List Int) (c:List (List DVal)) (l:List DVal) (x:Nat) :
  Head ⟨n,env,[⟨3,1,ids.map intC,true,true⟩,⟨204,2,(FV ids c l x).map DRow.o,true,true⟩]⟩ ⟨n,env,ADE ids c l x⟩:=by
 by_cases h:x<ids.length
 ·rw[xK h]
  exact Head.open' (s:=⟨n,env,[⟨3,1,ids.map intC,true,true⟩,⟨204,2,(FV ids c l x).map DRow.o,true,true⟩]⟩) 1 x 1 (ob:=⟨204,2,(FV ids c l x).map DRow.o,true,true⟩) (row:=DRow.o (Jd ids c x)) rfl rfl
   (by simp only[lD,qI h,bP]) rfl rfl
 ·rw[xM h]
  exact⟨rfl,fun _ _ St β _ _ h=>⟨St,β,h⟩⟩
theorem xN (l:List Int):IU (l.map byteC)=true:=by
 induction l with
 | nil=>rfl
 | cons c l ih=>simp only[XA,IU,ih,aS]; rfl
theorem Yx {ids:List Int} {c:List (List DVal)} (hn:ids.length≤64) (hc:c.length≤1048576) (h2:∀ x∈c,∀ v∈x,v.s.size≤6):fitS IR (rowsOf ids c):=by
 refine⟨by rw[Cm]; omega,fun r hr=>?_⟩
 rw[fC] at hr
 obtain⟨i,_,rfl⟩:=WY.1 hr
 refine⟨by simp only[Jd,ae]; exact hc,fun v hv=>?_⟩
 simp only[Jd] at hv
 obtain⟨x,hx,rfl⟩:=WY.1 hv
 rw[Un]
 cases hq:x[i]? with
 | none=>simp[rowsOf.zeroW]
 | some v =>
  have:=h2 x hx v (aY hq)
  simp only[aJ]; omega
theorem fE {b:List Int} {ty k:Int} {l:List DVal} (h:H9 b ty k=some l):1≤ty∧ty≤2:=by
 unfold H9 at h
 split at h
 ·assumption
 ·cases h
theorem Yy {v:DVal} (h:BD v=true):v.s.size≤6:=by
 unfold BD at h
 split at h
 ·simp only[ak,ZZ] at h
  rw[kK h.2]
  exact ax _
 ·simp only[ak,bf] at h
  exact h.1.2
noncomputable def ABr (cs b ids:List Int) (x:Option (List (List DVal)×Nat)):Option (List DRow):=match x with
 | none=>none
 | some (c,_)=>if Ci cs (rowsOf ids c)=true∧Cb cs (rowsOf ids c)=b then some (rowsOf ids c) else none
theorem VM (cs b ids:List Int):ABr cs b ids none=none:=rfl
theorem fF (cs b ids:List Int) (c:List (List DVal)) (p:Nat):ABr cs b ids (some (c,p))=if Ci cs (rowsOf ids c)=true∧Cb cs (rowsOf ids c)=b then some (rowsOf ids c) else none:=rfl
theorem XR {cs b ids:List Int} {c:List (List DVal)} {p:Nat} (h:¬ (Ci cs (rowsOf ids c)=true∧Cb cs (rowsOf ids c)=b)):ABr cs b ids (some (c,p))=none:=by rw[fF,aV h]
theorem qL {cs b ids:List Int} {c:List (List DVal)} {p:Nat} (h:Ci cs (rowsOf ids c)=true∧Cb cs (rowsOf ids c)=b):ABr cs b ids (some (c,p))=some (rowsOf ids c):=by rw[fF,bz h]
def VN:Option (List DRow)→List Res
 | some l=>[.own 204 2 (l.map DRow.o) true,.val (.c (.v (.bool (true))))]
 | none=>[.own 204 2 [] true,.val (.c (.v (.bool (false))))]
theorem Yz (cs:List Int) (b:List Int) (hb:AY b) (hl:b.length≤1048576):Ctr prog 225 [.c (.sl (cs.map intC)),.c (.sl (b.map byteC))] (VN (CS cs b)):=by
 rw[← pI hb]
 refine CM call225 func225 ntmps225 results225 fun hw=>?_
 simp only[go_sem]
 have hg:=Zp b 0 hb hl
 rcases h1:ES b 0 with _ | ⟨ids,q⟩<;>rw[h1] at hg<;>simp only[Wl] at hg
 ·have e:Ig cs b=none:=by simp only[Ig,h1]
  rw[e]
  refine CallK.mk _ hg fun _=>?_
  simp only[go_sem,VN]
  try simp[AU,AO,Df]
 refine CallK.mk _ hg fun _=>?_
 obtain⟨n1,n2,n3⟩:=R_ hb h1
 simp only[go_sem]
 refine CallK.mk _ (OM _) fun _=>?_
 rcases hc:EQ cs with _ | _
 ·have e:Ig cs b=none:=by simp only[Ig,h1,hc]; rfl
  rw[e]
  simp only[go_sem,hc,VN]
  try simp[AU,AO,Df]
 have hcs3:cs.length≤3:=by
  simp only[EQ,ak] at hc
  have:=hc.2
  simp[Ac] at this; omega
 have hall:Ig cs b=ABr cs b ids (Ep b cs ids q):=by
  simp only[Ig,h1]; exact bz hc
 rw[hall]
 simp only[go_sem,hc]
 refine LoopH.mk [32] (A:=Nat) (fun x=>[(35,.c (.v (.int .i64 (x)))),(9,.c (.ref 1))]) (fun x=>[⟨3,1,ids.map intC,true,true⟩,⟨204,2,((ids.take x).map fun n=>(⟨n,[]⟩:DRow)).map DRow.o,true,true⟩]) (fun x=>x≤ids.length) (fun x=>ids.length-x) 0 (Head.sel [(0,false),(1,false)] ⟨rfl,rfl,Be _,rfl,trivial⟩ rfl) (ax _) ?_
 rintro i hi
 simp only[go_sem]
 refine cndC.mk (fun h=>?_) (fun h=>?_)
 ·have hi':i<ids.length:=by simp at h; omega
  have hl2:i+1≤2147483648:=by omega
  simp only[go_sem,AA _ hi',hi',hl2,bC,X4 hi,wrap_i64 (n:=(i:Int)+1) (by omega) (by omega)]
  have hnr:Df [[Cl.v (.int .i64 ids[i]),Cl.v (.slice none 0 0)]]=true:=rfl
  simp only[go_sem,hnr,AA _ hi',hi',hl2,bC,X4 hi,wrap_i64 (n:=(i:Int)+1) (by omega) (by omega)]
  have hlen:(((ids.take i).map fun n=>(⟨n,[]⟩:DRow)).map DRow.o).length=i:=by simp; omega
  refine⟨i+1,Head.trans (Head.nilI' 3 i 1 68 3 _ [.v (.int .i64 ids[i]),.v (.slice none 0 0)] (zs:=((ids.take i).map fun n=>(⟨n,[]⟩:DRow)).map DRow.o ++ [[.v (.int .i64 ids[i]),.ref 4]]) rfl ?row rfl ?set) (Head.selAbs [(0,false),(3,true),(4,false)] 2 1 ⟨rfl,rfl,Be _,I7 DRow.o_nr _ _ rfl,rfl,trivial⟩
   ⟨i,((ids.take i).map fun n=>(⟨n,[]⟩:DRow)).map DRow.o ++ [DRow.o ⟨ids[i],[]⟩],[.v (.int .i64 ids[i]),.ref 2],DRow.o ⟨ids[i],[]⟩,_,⟨W_ 1,rfl, ?rn,by simp; omega,rfl⟩,
    ⟨rfl,rfl,rfl,rfl,rfl,rfl,rfl,by simp[D7],fun l hl=>by simp[D7] at hl; omega⟩,⟨rfl, ?tr⟩, ?eq⟩),hi',by omega⟩
  case row=>simp only; rw[aX (by omega),hlen]; simp
  case set=>simp only; rw[aa5 _ _ (by omega),hlen]; simp
  case rn =>
   have:=I5 DRow.o_nr [(0,false),(3,true),(4,false)] ((ids.take i).map fun n=>(⟨n,[]⟩:DRow)) [.v (.int .i64 ids[i]),.ref 4] (DRow.o ⟨ids[i],[]⟩)
   rw[show ((ids.take i).map fun n=>(⟨n,[]⟩:DRow)).length=i by simp; omega] at this
   exact this
  case tr =>
   unfold A8
   have:=BJ (f:=DRow.o) ((ids.take i).map fun n=>(⟨n,[]⟩:DRow)) ⟨ids[i],[]⟩
   rw[show ((ids.take i).map fun n=>(⟨n,[]⟩:DRow)).length=i by simp; omega] at this
   rw[this]
   exact all2 (AP (Am _)) (AP (A7 _))
  case eq =>
   unfold A8
   have:=BJ (f:=DRow.o) ((ids.take i).map fun n=>(⟨n,[]⟩:DRow)) ⟨ids[i],[]⟩
   rw[show ((ids.take i).map fun n=>(⟨n,[]⟩:DRow)).length=i by simp; omega] at this
   rw[this,Jc (fun n=>(⟨n,[]⟩:DRow)) hi']
   rfl
 ·have hi':i=ids.length:=by simp at h; omega
  subst hi'
  simp only[go_sem,bG]
  have e0:(ids.map fun n=>(⟨n,[]⟩:DRow))=rowsOf ids []:=(Yv ids).symm
  rw[e0]
  refine LoopH.mk [] (A:=Nat×Nat×List (List DVal)) (fun x=>[(47,.c (.v (.int .i64 (x.1)))),(7,.c (.v (.int .i64 ((x.2.1:Int)))))]) (fun x=>[⟨3,1,ids.map intC,true,true⟩,⟨204,2,(rowsOf ids x.2.2).map DRow.o,true,true⟩]) (fun x=>x.1≤cs.length∧x.2.2.length=x.1∧((∀ c∈x.2.2,c.length=ids.length)∧(∀ c∈x.2.2,∀ v∈c,v.s.size≤6))∧x.2.1≤b.length∧(ids = []→x=(0,q,[]))∧(ids≠ []→(Fa b ids.length (cs.drop x.1) x.2.1).map (fun y=>(x.2.2++y.1,y.2))=Fa b ids.length cs q)) (fun x=>cs.length-x.1) (0,q,[]) (Head.sel [(0,false),(1,true)] ⟨rfl,rfl,Be _,Dq (A7 _),trivial⟩ ?h0) ⟨ax _,rfl,⟨by simp,by simp⟩,n1,fun _=>rfl,fun _=>by simp⟩ ?_
  case h0 =>
   show (⟨125,_,[_,⟨204,2,((rowsOf ids []).map DRow.o).map (fun x=>x.map (Qy [(0,false),(1,true)])),true,true⟩]⟩:MS)=_
   rw[DF (A7 _)]; rfl
  rintro⟨k,p,c⟩ ⟨hk,hck,⟨hcl,hsz⟩,hpb,hemp,hne⟩
  dsimp only at hk hck hcl hsz hpb hemp hne
  simp only[go_sem]
  refine cndC.mk (fun h=>?_) (fun h=>?_)
  ·have hk':k<cs.length:=by simp at h; omega
   simp only[go_sem,AA _ hk']
   rcases hi0:((ids.length:Int)==0) with _ | _
   rotate_left
   ·have hids:ids = []:=by simpa using hi0
    have hx:=hemp hids
    simp only[bJ] at hx
    obtain⟨_,hp0,hc0⟩:=hx
    have hgc:Ep b cs ids q=some (c,p):=by rw[hc0,hp0]; exact bz hids
    rw[hgc]
    simp only[go_sem,hi0]
    refine BorK.mk (args:=[.c (.sl (cs.map intC)),.c (.sl ((rowsOf ids c).map DRow.c))]) _ (by simp only[KX,HY,go_sem]) rfl (Og cs (rowsOf ids c) (by rw[Cm]; omega)) fun _=>?_
    rcases hok:Ci cs (rowsOf ids c) with _ | _
    ·have hno:¬ (Ci cs (rowsOf ids c)=true∧Cb cs (rowsOf ids c)=b):=fun q=>by rw[hok] at q; cases q.1
     rw[XR hno]
     simp only[go_sem,hok,VN]
     try simp[AU,AO,Df]
    simp only[go_sem,hok]
    refine BorK.mk (args:=[.c (.sl (cs.map intC)),.c (.sl ((rowsOf ids c).map DRow.c))]) [.own 5 1 ((Cb cs (rowsOf ids c)).map byteC) true] (by simp only[KX,HY,go_sem]) (by simp only[bK,Pi,dm,aS,xN]) (QA cs (rowsOf ids c) (Yx n2 (by omega) hsz)) fun _=>?_
    simp only[go_sem]
    refine CallK.mk _ (KF (Cb cs (rowsOf ids c)) b) fun _=>?_
    rcases h6:decide (Cb cs (rowsOf ids c)=b) with _ | _
    ·have hno:¬ (Ci cs (rowsOf ids c)=true∧Cb cs (rowsOf ids c)=b):=fun q=>by simp at h6; exact h6 q.2
     rw[XR hno]
     simp only[go_sem,hok,h6,VN]
     try simp[AU,AO,Df]
    ·have hyes:Ci cs (rowsOf ids c)=true∧Cb cs (rowsOf ids c)=b:=⟨hok,by simpa using h6⟩
     rw[qL hyes]
     simp only[go_sem,hok,h6,VN,A7]
     try simp[AU,AO]
   have hids:ids≠ []:=by rintro rfl; simp at hi0
   have hn0:0<ids.length:=aa0.2 hids
   have hne:=hne hids
   have hgc:Ep b cs ids q=Fa b ids.length cs q:=aV hids
   rw[hgc]
   rw[Oc hk',Fa] at hne
   simp only[go_sem,hi0]
   have hg2:=FH b p hb hl
   rcases h3:BN b p with _ | ⟨m,p2⟩<;>rw[h3] at hg2 hne<;>simp only[UC] at hg2
   ·refine CallK.mk _ hg2 fun _=>?_
    simp only[di] at hne
    rw[← hne,VM]
    simp only[go_sem,VN]
    try simp[AU,AO,Df]
   refine CallK.mk _ hg2 fun _=>?_
   dsimp only at hne
   obtain⟨_,z2,z3,z4,z5,_⟩:=Gm hb h3
   have hw1:IntKind.i64.wrap ((b.length:Int)-(p2:Int))=(b.length:Int)-(p2:Int):=wrap_i64 (by omega) (by omega)
   simp only[go_sem,hw1]
   refine CallK.mk _ (AC _ _ _) fun _=>?_
   rcases h4:Ac m 0 ((b.length:Int)-(p2:Int)) with _ | _
   ·rw[aV (by simp[Ac] at h4; omega)] at hne
    simp only[di] at hne
    rw[← hne,VM]
    simp only[go_sem,h4,VN]
    try simp[AU,AO,Df]
   have h4':0≤m∧m≤(b.length:Int)-(p2:Int):=by simp[Ac] at h4; omega
   rw[bz h4'] at hne
   obtain⟨M,rfl⟩:=aP h4'.1
   rw[bY] at hne
   have q1:=Gy (k:=.i64) (n:=(p2:Int)) (m:=p2) (by omega)
   have q2:=Gy (k:=.i64) (n:=(p2:Int)+(M:Int)) (m:=p2+M) (by omega)
   have q5:p2≤p2+M:=by omega
   have q6:p2+M≤b.length:=by omega
   have q7:p2+M-p2=M:=by omega
   have hbd:AY ((b.drop p2).take M):=Qi hb _ _
   have hdc:=kH ((b.drop p2).take M) cs[k] (ids.length:Int) hbd (by simp; omega)
   simp only[go_sem,h4,q1,q2,q5,q6,q7,BC,← bW,← bV,wrap_i64 (n:=(p2:Int)+(M:Int)) (by omega) (by omega)]
   rcases h5:H9 ((b.drop p2).take M) cs[k] (ids.length:Int) with _ | l<;>rw[h5] at hdc hne<;>simp only[Cj] at hdc
   ·refine CallK.mk _ hdc fun _=>?_
    simp only[di] at hne
    rw[← hne,VM]
    simp only[go_sem,VN]
    try simp[AU,AO,Df]
   refine CallK.mk _ hdc fun _=>?_
   dsimp only at hne
   obtain⟨y1,y2,y3⟩:=VD hbd h5
   have hll:l.length=ids.length:=by omega
   simp only[go_sem,Cm]
   refine LoopH.mk [] (A:=Nat) (fun x=>[(89,.c (.v (.int .i64 (x))))]) (fun x=>ADE ids c l x) (fun x=>x≤ids.length) (fun x=>ids.length-x) 0 (Head.trans (Head.sel [(0,false),(1,true)] ⟨rfl,rfl,Be _,Dq (A7 _),trivial⟩ (by
    show (⟨125,_,[_,⟨204,2,((rowsOf ids c).map DRow.o).map (fun x=>x.map (Qy [(0,false),(1,true)])),true,true⟩]⟩:MS)=_
    rw[DF (A7 _),fD]; rfl)) (qK ids c l 0)) (ax _) ?_
   rintro x hx
   simp only[go_sem]
   refine cndC.mk (fun h=>?_) (fun h=>?_)
   ·have hx':x<ids.length:=by simp at h; omega
    have hxl:x<l.length:=by omega
    have hgl:(FV ids c l x).length=ids.length:=UO hx
    have hrow:(((FV ids c l x).map DRow.o).set x [.v (.int .i64 (Jd ids c x).id),.ref 2])[x]?=some [.v (.int .i64 (Jd ids c x).id),.ref 2]:=by
     rw[bZ]; simp[hgl,hx']
    rw[xK hx']
    simp only[go_sem,AA _ hxl,hgl,hx',hrow,bu]
    have hal:(Jd ids c x).l.length+1≤2147483648:=by simp only[Jd,ae]; omega
    refine DrawK.mkE ?_
    simp only[go_sem,AA _ hxl,hgl,hx',hrow,bu,hal,wrap_i64 (n:=(x:Int)+1) (by omega) (by omega)]
    have hnx:(FV ids c l (x+1)).map DRow.o=((FV ids c l x).map DRow.o).set x (DRow.o (Jd ids (c ++ [l]) x)):=by rw[← qJ hx',aa6]
    have hrs:DRow.o (Jd ids (c ++ [l]) x) = [.v (.int .i64 (Jd ids c x).id),.ow 68 3 ((Jd ids c x).l.map DVal.c ++ [l[x].c])]:=by rw[qG hxl,← FM]; rfl
    have hR:((FV ids c l (x+1)).map DRow.o).set x [.v (.int .i64 (Jd ids c x).id),.ow 68 3 ((Jd ids c x).l.map DVal.c ++ [l[x].c])]=(FV ids c l (x+1)).map DRow.o:=by rw[hnx,cu,hrs]
    refine⟨x+1,Head.trans (Head.selAbs [(0,false),(1,true),(4,false)] 2 1 ⟨rfl,rfl,Be _, ?inn,Ku _ _,trivial⟩
     ⟨x,(FV ids c l (x+1)).map DRow.o,[.v (.int .i64 (Jd ids c x).id),.ref 2],[.v (.int .i64 (Jd ids c x).id),.ow 68 3 ((Jd ids c x).l.map DVal.c ++ [l[x].c])],_,⟨W_ 1,rfl, ?rn, ?len,rfl⟩,
      ⟨rfl,rfl,rfl,rfl,rfl,rfl, ?nr,by simp[D7],fun l hl=>by simp[D7] at hl; omega⟩,⟨rfl, ?tr⟩, ?eq⟩) (qK ids c l (x+1)),hx',by omega⟩
    case inn =>
     show ((((FV ids c l x).map DRow.o).set x [.v (.int .i64 (Jd ids c x).id),.ref 2]).set x [.v (.int .i64 (Jd ids c x).id),.ref 4]).all (fun x=>x.all (wP [(0,false),(1,true),(4,false)]))=true
     rw[cu]
     refine aF.2 fun y hy=>?_
     rcases aaH hy with hy | rfl
     ·exact aF.1 (Dq (A7 _)) y hy
     ·rfl
    case rn =>
     show ((((FV ids c l x).map DRow.o).set x [.v (.int .i64 (Jd ids c x).id),.ref 2]).set x [.v (.int .i64 (Jd ids c x).id),.ref 4]).map (fun x=>x.map (Qy [(0,false),(1,true),(4,false)]))=_
     rw[cu,aa6,DF (A7 _),hnx,cu]
     rfl
    case len=>simp only[ae]; rw[UO (by omega)]; exact hx'
    case nr=>rw[← FM]; exact CV _
    case tr =>
     unfold A8
     rw[hR]
     exact all2 (AP (Am _)) (AP (A7 _))
    case eq =>
     unfold A8
     rw[hR]
     rfl
   ·have hx':x=ids.length:=by simp at h; omega
    rw[xM (by omega)]
    simp only[go_sem]
    subst hx'
    have hty:=fE h5
    have hta:=Cc (l:=l) (by omega)
    simp only[go_sem,qH,wrap_i64 (n:=(k:Int)+1) (by omega) (by omega),wrap_i64 (n:=(p2:Int)+(M:Int)) (by omega) (by omega)]
    exact⟨(k+1,p2+M,c ++ [l]),Head.sel [(0,false),(1,true)] ⟨rfl,rfl,Be _,Dq (A7 _),trivial⟩ (by
     show (⟨125,_,[_,⟨204,2,((rowsOf ids (c ++ [l])).map DRow.o).map (fun x=>x.map (Qy [(0,false),(1,true)])),true,true⟩]⟩:MS)=_
     rw[DF (A7 _)]; rfl),⟨hk',by simp[hck],⟨fun y hy=>by
      rcases yU.1 hy with hy | hy
      ·exact hcl y hy
      ·rw[aaT.1 hy]; exact hll,fun y hy v hv=>by
      rcases yU.1 hy with hy | hy
      ·exact hsz y hy v hv
      ·rw[aaT.1 hy] at hv; exact Yy (hta.2.2 v hv).1⟩,q6,fun q=>absurd q hids,fun _=>by
     rw[← hne,yV]; congr 1; funext y; simp⟩,by simp only; omega⟩
  ·have hk':k=cs.length:=by simp at h; omega
   have hgc:Ep b cs ids q=some (c,p):=by
    by_cases hids:ids = []
    ·have hx:=hemp hids
     simp only[bJ] at hx
     obtain⟨_,hp0,hc0⟩:=hx
     rw[hc0,hp0]; exact bz hids
    ·have hne:=hne hids
     rw[hk',aU,Fa] at hne
     simp only[bP,bF] at hne
     rw[hne]; exact aV hids
   rw[hgc]
   simp only[go_sem]
   refine BorK.mk (args:=[.c (.sl (cs.map intC)),.c (.sl ((rowsOf ids c).map DRow.c))]) _ (by simp only[KX,HY,go_sem]) rfl (Og cs (rowsOf ids c) (by rw[Cm]; omega)) fun _=>?_
   rcases hok:Ci cs (rowsOf ids c) with _ | _
   ·have hno:¬ (Ci cs (rowsOf ids c)=true∧Cb cs (rowsOf ids c)=b):=fun q=>by rw[hok] at q; cases q.1
    rw[XR hno]
    simp only[go_sem,hok,VN]
    try simp[AU,AO,Df]
   simp only[go_sem,hok]
   refine BorK.mk (args:=[.c (.sl (cs.map intC)),.c (.sl ((rowsOf ids c).map DRow.c))]) [.own 5 1 ((Cb cs (rowsOf ids c)).map byteC) true] (by simp only[KX,HY,go_sem]) (by simp only[bK,Pi,dm,aS,xN]) (QA cs (rowsOf ids c) (Yx n2 (by omega) hsz)) fun _=>?_
   simp only[go_sem]
   refine CallK.mk _ (KF (Cb cs (rowsOf ids c)) b) fun _=>?_
   rcases h6:decide (Cb cs (rowsOf ids c)=b) with _ | _
   ·have hno:¬ (Ci cs (rowsOf ids c)=true∧Cb cs (rowsOf ids c)=b):=fun q=>by simp at h6; exact h6 q.2
    rw[XR hno]
    simp only[go_sem,hok,h6,VN]
    try simp[AU,AO,Df]
   ·have hyes:Ci cs (rowsOf ids c)=true∧Cb cs (rowsOf ids c)=b:=⟨hok,by simpa using h6⟩
    rw[qL hyes]
    simp only[go_sem,hok,h6,VN,A7]
    try simp[AU,AO]
end Go.Proofs.YtnfbaclikokapaaGreat
