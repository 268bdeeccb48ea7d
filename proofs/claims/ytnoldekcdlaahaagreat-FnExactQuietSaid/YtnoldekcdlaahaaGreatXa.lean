/- A part. -/
import Derived.Test.YtnoldekcdlaahaaGreatYq
set_option linter.unusedSimpArgs false
set_option linter.unusedVariables false
set_option maxHeartbeats 2000000
set_option maxRecDepth 10000
namespace Go.Vm
theorem Head.open {s:MS} (l i off:Nat) {ob:Ob} {row:List Cl} {ty:TypeId} {sz:Nat} {xs:List (List Cl)} (hob:DT s.st l=some ob) (hwr:ob.wr=true) (hrow:ob.xs[i]?=some row) (hcell:row[off]?=some (.ow ty sz xs)) :
  Head s ⟨s.n,s.env,Bc s.st l i off ob row ty sz xs⟩:=⟨rfl,fun w0 St0 St β a w hc=>by
 obtain⟨b,u,β',_,_,h,_⟩:=hc.openCell hob hwr hrow hcell
 exact⟨St,β',h⟩⟩
theorem Head.nilI {s:MS} (l i j e n:Nat) (ob:Ob) (row:List Cl) (hob:s.st[l]?=some ob) (hrow:ob.xs[i]?=some row) (h:row[j]?=some (.v (.slice none 0 0))) :
  Head s ⟨s.n,s.env,s.st.set l ⟨ob.ty,ob.sz,ob.xs.set i (row.set j (.ref s.st.length)),ob.wr,ob.live⟩ ++ [⟨e,n,[],true,true⟩]⟩:=⟨rfl,fun w0 St0 St β a w hc=>by
 obtain⟨β',h1,h2⟩:=hc.nilOb e n
 have hl:l<s.st.length:=(aF.1 hob).1
 have hi:i<ob.xs.length:=(aF.1 hrow).1
 have hj:j<row.length:=(aF.1 h).1
 have hri:ob.xs[i]=row:=(aF.1 hrow).2
 have hg:∀ (l2:Nat) (o2:Ob),(s.st.set l ⟨ob.ty,ob.sz,ob.xs.set i (row.set j (.ref s.st.length)),ob.wr,ob.live⟩ ++ [⟨e,n,[],true,true⟩])[l2]?=some o2→(l2=l∧o2=⟨ob.ty,ob.sz,ob.xs.set i (row.set j (.ref s.st.length)),ob.wr,ob.live⟩)∨(l2≠l∧(s.st ++ [(⟨e,n,[],true,true⟩:Ob)])[l2]?=some o2):=by
  intro l2 o2 h2
  by_cases e1:l2=l
  ·subst e1
   rw[bG APR,yz] at h2
   simp[hl] at h2
   exact .inl ⟨rfl,h2.symm⟩
  ·refine .inr ⟨e1, ?_⟩
   rw[List.getElem?_append] at h2 ⊢
   simp only[ag] at h2
   split at h2
   ·rename_i hlt
    rw[yz,aZ (fun e2=>e1 e2.symm)] at h2
    rw[bu hlt]; exact h2
   ·rename_i hlt
    rw[aZ hlt]; exact h2
 have hg2:∀ (l2:Nat) (o2:Ob),(s.st ++ [(⟨e,n,[],true,true⟩:Ob)])[l2]?=some o2→∃ o3,(s.st.set l ⟨ob.ty,ob.sz,ob.xs.set i (row.set j (.ref s.st.length)),ob.wr,ob.live⟩ ++ [⟨e,n,[],true,true⟩])[l2]?=some o3∧o3.live=o2.live∧o3.sz=o2.sz∧o3.ty=o2.ty∧o3.xs.length=o2.xs.length:=by
  intro l2 o2 h2
  by_cases e1:l2=l
  ·subst e1
   rw[bG hl,hob] at h2
   cases h2
   exact⟨⟨ob.ty,ob.sz,ob.xs.set i (row.set j (.ref s.st.length)),ob.wr,ob.live⟩,by rw[bG APR,yz]; simp only[aX,hl],rfl,rfl,rfl,AOi⟩
  ·refine⟨o2, ?_,rfl,rfl,rfl,rfl⟩
   rw[List.getElem?_append] at h2 ⊢
   simp only[ag]
   split at h2
   ·rename_i hlt
    rw[bu hlt,yz,aZ (fun e2=>e1 e2.symm)]; exact h2
   ·rename_i hlt
    rw[aZ hlt]; exact h2
 have hr:∀ (l2:Nat) (u:Value),BN w (s.st ++ [⟨e,n,[],true,true⟩]) β' l2 u→BN w (s.st.set l ⟨ob.ty,ob.sz,ob.xs.set i (row.set j (.ref s.st.length)),ob.wr,ob.live⟩ ++ [⟨e,n,[],true,true⟩]) β' l2 u:=by
  intro l2 u hu
  unfold BN at hu ⊢
  cases hq:(s.st ++ [(⟨e,n,[],true,true⟩:Ob)])[l2]? with
  | none=>simp[hq] at hu
  | some o2 =>
   obtain⟨o3,p1,p2,p3,p4,p5⟩:=hg2 l2 o2 hq
   simp only[hq] at hu
   simp only[p1]
   refine⟨hu.1,fun hlv=>?_⟩
   have h3:=hu.2 (by rw[← p2]; exact hlv)
   cases hβ:β' l2 with
   | none=>simp only[hβ] at h3 ⊢; exact⟨h3.1,aai (by rw[p5,h3.2]; rfl)⟩
   | some b=>simp only[hβ] at h3 ⊢; simpa only[p3,p4,p5] using h3
 refine⟨St,β',h1.reTell _ _ hr (fun l2 i off u hu=>?_) (fun i u hu=>hu) (fun l2 o' hl2 hlv=>?_)⟩
 ·simp only[AVR] at hu ⊢
  cases hq:(s.st ++ [(⟨e,n,[],true,true⟩:Ob)])[l2]? with
  | none=>simp[hq] at hu
  | some o2 =>
   obtain⟨o3,p1,p2,p3,_⟩:=hg2 l2 o2 hq
   simp only[hq] at hu
   simp only[p1,p2,p3]
   exact hu
 ·rcases hg l2 o' hl2 with ⟨rfl,rfl⟩ | ⟨_,h3⟩
  ·refine⟨ob,by rw[bG hl]; exact hob,hlv,rfl,rfl,rfl,AOi,fun hx x hx2=>?_,fun k c' hk=>?_⟩
   ·rcases aaW hx2 with hx2 | hx2
    ·exact hx x hx2
    ·rw[hx2,ag]
     exact hx row (by rw[← hri]; exact ax hi)
   ·have e1:ob.xs.flatten=(ob.xs.take i).flatten++(row++(ob.xs.drop (i+1)).flatten):=by
     conv=>lhs; rw[← List.take_append_drop i ob.xs]
     rw[aaF,aG hi,dm,hri]
    have e2:(ob.xs.set i (row.set j (.ref s.st.length))).flatten=(ob.xs.take i).flatten++(row.set j (.ref s.st.length)++(ob.xs.drop (i+1)).flatten):=by
     rw[List.set_eq_take_append_cons_drop,bu hi,aaF,dm]
    rw[e2] at hk
    rw[e1]
    by_cases h3:k<(ob.xs.take i).flatten.length
    ·rw[bG h3] at hk ⊢
     exact⟨c',hk,fun _ h=>h,fun _=>rfl⟩
    ·rw[aY AOh] at hk ⊢
     generalize k-(ob.xs.take i).flatten.length=k2 at hk
     by_cases h4:k2<row.length
     ·rw[bG APD,yz] at hk
      rw[bG h4]
      by_cases e3:j=k2
      ·subst e3
       exact ANP
      ·rw[aZ e3] at hk
       exact⟨c',hk,fun _ h=>h,fun _=>rfl⟩
     ·rw[aY AOj,ag] at hk
      rw[aY AOh]
      exact⟨c',hk,fun _ h=>h,fun _=>rfl⟩
  ·exact⟨o',h3,hlv,rfl,rfl,rfl,rfl,fun h=>h,fun k c hk=>⟨c,hk,fun _ h=>h,fun _=>rfl⟩⟩⟩
theorem Head.open' {s:MS} (l i off:Nat) {ob:Ob} {row:List Cl} {ty:TypeId} {sz:Nat} {xs zs:List (List Cl)} (hob:DT s.st l=some ob) (hwr:ob.wr=true) (hrow:ob.xs[i]?=some row) (hcell:row[off]?=some (.ow ty sz xs)) (e:ob.xs.set i (row.set off (.ref s.st.length))=zs) :
  Head s ⟨s.n,s.env,s.st.set l ⟨ob.ty,ob.sz,zs,ob.wr,ob.live⟩ ++ [⟨ty,sz,xs,true,true⟩]⟩:=by
 subst e
 exact Head.open l i off hob hwr hrow hcell
theorem Head.nilI' {s:MS} (l i j e n:Nat) (ob:Ob) (row:List Cl) {zs:List (List Cl)} (hob:s.st[l]?=some ob) (hrow:ob.xs[i]?=some row) (h:row[j]?=some (.v (.slice none 0 0))) (he:ob.xs.set i (row.set j (.ref s.st.length))=zs) :
  Head s ⟨s.n,s.env,s.st.set l ⟨ob.ty,ob.sz,zs,ob.wr,ob.live⟩ ++ [⟨e,n,[],true,true⟩]⟩:=by
 subst he
 exact Head.nilI l i j e n ob row hob hrow h
end Go.Vm
open Go.Proofs.Tryz
namespace Go.Proofs.YtnoldekcdlaahaaGreat
open Go.Vm
theorem fE (ids:List Int):rowsOf ids []=ids.map fun n=>(⟨n,[]⟩:DRow):=by
 unfold rowsOf
 exact AMs
def Kr (ids:List Int) (c:List (List DVal)) (x:Nat):DRow:=⟨(ids[x]?).getD 0,c.map fun v=>(v[x]?).getD rowsOf.zeroW⟩
theorem lF (ids:List Int) (c:List (List DVal)):rowsOf ids c=(List.range ids.length).map (Kr ids c):=rfl
theorem fF {ids:List Int} {c:List (List DVal)} {x:Nat} (h:x<ids.length):(rowsOf ids c)[x]?=some (Kr ids c x):=by
 rw[lF,qp,List.getElem?_range h]; rfl
theorem vT {ids:List Int} {c:List (List DVal)} {l:List DVal} {x:Nat} (h:x<l.length):Kr ids (c ++ [l]) x=⟨(Kr ids c x).id,(Kr ids c x).l ++ [l[x]]⟩:=by
 simp only[Kr,XC,YG,cu,au h,aI]
def Gl (ids:List Int) (c:List (List DVal)) (l:List DVal) (x:Nat):List DRow:=(rowsOf ids (c ++ [l])).take x++(rowsOf ids c).drop x
theorem lG (ids:List Int) (c:List (List DVal)) (l:List DVal):Gl ids c l 0=rowsOf ids c:=rfl
theorem vU (ids:List Int) (c:List (List DVal)) (l:List DVal):Gl ids c l ids.length=rowsOf ids (c ++ [l]):=by
 unfold Gl
 rw[aaz (by rw[Dq]; omega),List.drop_eq_nil_of_le (by rw[Dq]; omega),bI]
theorem Vt {ids:List Int} {c:List (List DVal)} {l:List DVal} {x:Nat} (h:x≤ids.length):(Gl ids c l x).length=ids.length:=by
 simp only[Gl,bn,bz,aaP,Dq]; omega
theorem vV {ids:List Int} {c:List (List DVal)} {l:List DVal} {x:Nat} (h:x<ids.length):(Gl ids c l x)[x]?=some (Kr ids c x):=by
 unfold Gl
 rw[aY (by simp[Dq]; omega)]
 simp only[bz,Dq,dO (Nat.le_of_lt h),jP,aaV,abJ]
 exact fF h
theorem vW {ids:List Int} {c:List (List DVal)} {l:List DVal} {x:Nat} (h:x<ids.length):(Gl ids c l x).set x (Kr ids (c ++ [l]) x)=Gl ids c l (x+1):=by
 have hx:x<(rowsOf ids (c ++ [l])).length:=by rw[Dq]; exact h
 have hx2:x<(rowsOf ids c).length:=by rw[Dq]; exact h
 have e1:(rowsOf ids (c ++ [l]))[x]=Kr ids (c ++ [l]) x:=by
  have:=fF (c:=c ++ [l]) h
  rw[au hx] at this
  exact uV this
 unfold Gl
 rw[aag hx,e1,abh _ _ AOj,bz,dO (Nat.le_of_lt hx),jP,aG hx2,List.set_cons_zero,bM]
 rfl
def AF7 (ids:List Int) (c:List (List DVal)) (l:List DVal) (x:Nat):List Ob:=if x<ids.length then
  [⟨3,1,ids.map intC,true,true⟩,⟨204,2,((Gl ids c l x).map DRow.o).set x [.v (.int .i64 (Kr ids c x).id),.ref 2],true,true⟩,⟨64,3,(Kr ids c x).l.map DVal.c,true,true⟩]
 else [⟨3,1,ids.map intC,true,true⟩,⟨204,2,(Gl ids c l x).map DRow.o,true,true⟩]
theorem AA9 {ids:List Int} {c:List (List DVal)} {l:List DVal} {x:Nat} (h:x<ids.length):AF7 ids c l x = [⟨3,1,ids.map intC,true,true⟩,⟨204,2,((Gl ids c l x).map DRow.o).set x [.v (.int .i64 (Kr ids c x).id),.ref 2],true,true⟩,⟨64,3,(Kr ids c x).l.map DVal.c,true,true⟩]:=bu h
theorem AA_ {ids:List Int} {c:List (List DVal)} {l:List DVal} {x:Nat} (h:¬ x<ids.length):AF7 ids c l x = [⟨3,1,ids.map intC,true,true⟩,⟨204,2,(Gl ids c l x).map DRow.o,true,true⟩]:=aZ h
theorem vX {n:Nat} {env:List (Nat×AV)} (ids:List Int) (c:List (List DVal)) (l:List DVal) (x:Nat) :
  Head ⟨n,env,[⟨3,1,ids.map intC,true,true⟩,⟨204,2,(Gl ids c l x).map DRow.o,true,true⟩]⟩ ⟨n,env,AF7 ids c l x⟩:=by
 by_cases h:x<ids.length
 ·rw[AA9 h]
  exact Head.open' (s:=⟨n,env,[⟨3,1,ids.map intC,true,true⟩,⟨204,2,(Gl ids c l x).map DRow.o,true,true⟩]⟩) 1 x 1 (ob:=⟨204,2,(Gl ids c l x).map DRow.o,true,true⟩) (row:=DRow.o (Kr ids c x)) rfl rfl
   (by simp only[qp,vV h,bW]) rfl rfl
 ·rw[AA_ h]
  exact⟨rfl,fun _ _ St β _ _ h=>⟨St,β,h⟩⟩
theorem ABA (l:List Int):JV (l.map byteC)=true:=by
 induction l with
 | nil=>rfl
 | cons c l ih=>simp only[YG,JV,ih,aS]; rfl
theorem fG {ids:List Int} {c:List (List DVal)} (hn:ids.length≤64) (hc:c.length≤1048576) (h2:∀ x∈c,∀ v∈x,v.s.size≤6):fitS Gu (rowsOf ids c):=by
 refine⟨by rw[Dq]; omega,fun r hr=>?_⟩
 rw[lF] at hr
 obtain⟨i,_,rfl⟩:=kN.1 hr
 refine⟨by simp only[Kr,ae]; exact hc,fun v hv=>?_⟩
 simp only[Kr] at hv
 obtain⟨x,hx,rfl⟩:=kN.1 hv
 rw[Sl]
 cases hq:x[i]? with
 | none=>simp[rowsOf.zeroW]
 | some v =>
  have:=h2 x hx v (bF hq)
  simp only[aI]; omega
theorem lH {b:List Int} {ty k:Int} {l:List DVal} (h:I_ b ty k=some l):1≤ty∧ty≤2:=by
 unfold I_ at h
 split at h
 ·assumption
 ·cases h
theorem UX {v:DVal} (h:BK v=true):v.s.size≤6:=by
 unfold BK at h
 split at h
 ·simp only[ay,ZE] at h
  rw[AAE h.2]
  exact az _
 ·simp only[ay,bf] at h
  exact h.1.2
noncomputable def AEY (cs b ids:List Int) (x:Option (List (List DVal)×Nat)):Option (List DRow):=match x with
 | none=>none
 | some (c,_)=>if Dl cs (rowsOf ids c)=true∧Dc cs (rowsOf ids c)=b then some (rowsOf ids c) else none
theorem XU (cs b ids:List Int):AEY cs b ids none=none:=rfl
theorem lI (cs b ids:List Int) (c:List (List DVal)) (p:Nat):AEY cs b ids (some (c,p))=if Dl cs (rowsOf ids c)=true∧Dc cs (rowsOf ids c)=b then some (rowsOf ids c) else none:=rfl
theorem ZO {cs b ids:List Int} {c:List (List DVal)} {p:Nat} (h:¬ (Dl cs (rowsOf ids c)=true∧Dc cs (rowsOf ids c)=b)):AEY cs b ids (some (c,p))=none:=by rw[lI,aZ h]
theorem vY {cs b ids:List Int} {c:List (List DVal)} {p:Nat} (h:Dl cs (rowsOf ids c)=true∧Dc cs (rowsOf ids c)=b):AEY cs b ids (some (c,p))=some (rowsOf ids c):=by rw[lI,bu h]
def XV:Option (List DRow)→List Res
 | some l=>[.own 204 2 (l.map DRow.o) true,.val (.c (.v (.bool (true))))]
 | none=>[.own 204 2 [] true,.val (.c (.v (.bool (false))))]
theorem fH (cs:List Int) (b:List Int) (hb:Ad b) (hl:b.length≤1048576):Ctr prog 306 [.c (.sl (cs.map intC)),.c (.sl (b.map byteC))] (XV (DK cs b)):=by
 rw[← wE hb]
 refine CM call306 func306 ntmps306 results306 fun hw=>?_
 simp only[go_sem]
 have hg:=jT b 0 hb hl
 rcases h1:FT b 0 with _ | ⟨ids,q⟩<;>rw[h1] at hg<;>simp only[Y4] at hg
 ·have e:Jh cs b=none:=by simp only[Jh,h1]
  rw[e]
  refine AAT _ hg fun _=>?_
  simp only[go_sem,XV]
  try exact AKW
 refine AAT _ hg fun _=>?_
 obtain⟨n1,n2,n3⟩:=UZ hb h1
 simp only[go_sem]
 refine AAT _ (Ph _) fun _=>?_
 rcases hc:FN cs with _ | _
 ·have e:Jh cs b=none:=by simp only[Jh,h1,hc]; rfl
  rw[e]
  simp only[go_sem,hc,XV]
  try exact AKW
 have hcs3:cs.length≤3:=by
  simp only[FN,ay] at hc
  have:=hc.2
  simp[Aa] at this; omega
 have hall:Jh cs b=AEY cs b ids (F7 b cs ids q):=by
  simp only[Jh,h1]; exact bu hc
 rw[hall]
 simp only[go_sem,hc]
 refine AB6 [32] (A:=Nat) (fun x=>[(35,.c (.v (.int .i64 (x)))),(9,.c (.ref 1))]) (fun x=>[⟨3,1,ids.map intC,true,true⟩,⟨204,2,((ids.take x).map fun n=>(⟨n,[]⟩:DRow)).map DRow.o,true,true⟩]) (fun x=>x≤ids.length) (fun x=>ids.length-x) 0 (AB3 [(0,false),(1,false)] ⟨rfl,rfl,CB _,rfl,trivial⟩ rfl) (az _) ?_
 rintro i hi
 refine AOb (fun h=>?_) fun h=>?_
 ·have hi':i<ids.length:=by simp at h; omega
  have hl2:i+1≤2147483648:=AOh
  simp only[go_sem,AA _ hi',hi',hl2,bz,dO hi,wrap_i64 (n:=(i:Int)+1) AOh AOh]
  have hnr:DI [[Cl.v (.int .i64 ids[i]),Cl.v (.slice none 0 0)]]=true:=rfl
  simp only[go_sem,hnr,AA _ hi',hi',hl2,bz,dO hi,wrap_i64 (n:=(i:Int)+1) AOh AOh]
  have hlen:(((ids.take i).map fun n=>(⟨n,[]⟩:DRow)).map DRow.o).length=i:=AOj
  refine⟨i+1,Head.trans (Head.nilI' 3 i 1 64 3 _ [.v (.int .i64 ids[i]),.v (.slice none 0 0)] (zs:=((ids.take i).map fun n=>(⟨n,[]⟩:DRow)).map DRow.o ++ [[.v (.int .i64 ids[i]),.ref 4]]) rfl ?row rfl ?set) (ACS [(0,false),(3,true),(4,false)] 2 1 ⟨rfl,rfl,CB _,Jz DRow.o_nr _ _ rfl,rfl,trivial⟩
   ⟨i,((ids.take i).map fun n=>(⟨n,[]⟩:DRow)).map DRow.o ++ [DRow.o ⟨ids[i],[]⟩],[.v (.int .i64 ids[i]),.ref 2],DRow.o ⟨ids[i],[]⟩,_,⟨kL 1,rfl, ?rn,AOj,rfl⟩,
    ⟨rfl,rfl,rfl,rfl,rfl,rfl,rfl,AO1,fun l hl=>AOv⟩,⟨rfl, ?tr⟩, ?eq⟩),hi',AOh⟩
  case row=>simp only; rw[aY AOh,hlen]; simp
  case set=>simp only; rw[abh _ _ AOh,hlen]; simp
  case rn =>
   have:=Jy DRow.o_nr [(0,false),(3,true),(4,false)] ((ids.take i).map fun n=>(⟨n,[]⟩:DRow)) [.v (.int .i64 ids[i]),.ref 4] (DRow.o ⟨ids[i],[]⟩)
   exact ANd
  case tr =>
   unfold BO
   have:=B_ (f:=DRow.o) ((ids.take i).map fun n=>(⟨n,[]⟩:DRow)) ⟨ids[i],[]⟩
   rw[show ((ids.take i).map fun n=>(⟨n,[]⟩:DRow)).length=i from AOj] at this
   rw[this]
   exact all2 (AU (AQ _)) (AU (BF _))
  case eq =>
   exact ALz
 ·have hi':i=ids.length:=by simp at h; omega
  subst hi'
  simp only[go_sem,bD]
  have e0:(ids.map fun n=>(⟨n,[]⟩:DRow))=rowsOf ids []:=(fE ids).symm
  rw[e0]
  refine AB6 [] (A:=Nat×Nat×List (List DVal)) (fun x=>[(47,.c (.v (.int .i64 (x.1)))),(7,.c (.v (.int .i64 ((x.2.1:Int)))))]) (fun x=>[⟨3,1,ids.map intC,true,true⟩,⟨204,2,(rowsOf ids x.2.2).map DRow.o,true,true⟩]) (fun x=>x.1≤cs.length∧x.2.2.length=x.1∧((∀ c∈x.2.2,c.length=ids.length)∧(∀ c∈x.2.2,∀ v∈c,v.s.size≤6))∧x.2.1≤b.length∧(ids = []→x=(0,q,[]))∧(ids≠ []→(Gq b ids.length (cs.drop x.1) x.2.1).map (fun y=>(x.2.2++y.1,y.2))=Gq b ids.length cs q)) (fun x=>cs.length-x.1) (0,q,[]) (AB3 [(0,false),(1,true)] ⟨rfl,rfl,CB _,Ec (BF _),trivial⟩ ?h0) ⟨az _,rfl,⟨AOi,AOi⟩,n1,fun _=>rfl,fun _=>AOi⟩ ?_
  case h0 =>
   show (⟨125,_,[_,⟨204,2,((rowsOf ids []).map DRow.o).map (fun x=>x.map (TU [(0,false),(1,true)])),true,true⟩]⟩:MS)=_
   rw[Dz (BF _)]; rfl
  rintro⟨k,p,c⟩ ⟨hk,hck,⟨hcl,hsz⟩,hpb,hemp,hne⟩
  dsimp only at hk hck hcl hsz hpb hemp hne
  refine AOb (fun h=>?_) fun h=>?_
  ·have hk':k<cs.length:=by simp at h; omega
   simp only[go_sem,AA _ hk']
   rcases hi0:((ids.length:Int)==0) with _ | _
   rotate_left
   ·have hids:ids = []:=by simpa using hi0
    have hx:=hemp hids
    simp only[bK] at hx
    obtain⟨_,hp0,hc0⟩:=hx
    have hgc:F7 b cs ids q=some (c,p):=by rw[hc0,hp0]; exact bu hids
    rw[hgc]
    simp only[go_sem,hi0]
    exact AGk
   have hids:ids≠ []:=by rintro rfl; simp at hi0
   have hn0:0<ids.length:=aa0.2 hids
   have hne:=hne hids
   have hgc:F7 b cs ids q=Gq b ids.length cs q:=aZ hids
   rw[hgc]
   rw[QK hk',Gq] at hne
   simp only[go_sem,hi0]
   have hg2:=GN b p hb hl
   rcases h3:BX b p with _ | ⟨m,p2⟩<;>rw[h3] at hg2 hne<;>simp only[Vw] at hg2
   ·refine AAT _ hg2 fun _=>?_
    simp only[WY] at hne
    rw[← hne,XU]
    simp only[go_sem,XV]
    try exact AKW
   refine AAT _ hg2 fun _=>?_
   dsimp only at hne
   obtain⟨_,z2,z3,z4,z5,_⟩:=IA hb h3
   have hw1:IntKind.i64.wrap ((b.length:Int)-(p2:Int))=(b.length:Int)-(p2:Int):=wrap_i64 AOh AOh
   simp only[go_sem,hw1]
   refine AAT _ (AL _ _ _) fun _=>?_
   rcases h4:Aa m 0 ((b.length:Int)-(p2:Int)) with _ | _
   ·rw[aZ APd] at hne
    simp only[WY] at hne
    rw[← hne,XU]
    simp only[go_sem,h4,XV]
    try exact AKW
   have h4':0≤m∧m≤(b.length:Int)-(p2:Int):=APd
   rw[bu h4'] at hne
   obtain⟨M,rfl⟩:=aO h4'.1
   rw[bH] at hne
   have q1:=IP (k:=.i64) (n:=(p2:Int)) (m:=p2) AOh
   have q2:=IP (k:=.i64) (n:=(p2:Int)+(M:Int)) (m:=p2+M) AOh
   have q5:p2≤p2+M:=AOh
   have q6:p2+M≤b.length:=AOh
   have q7:p2+M-p2=M:=AOh
   have hbd:Ad ((b.drop p2).take M):=TK hb _ _
   have hdc:=qP ((b.drop p2).take M) cs[k] (ids.length:Int) hbd AOj
   simp only[go_sem,h4,q1,q2,q5,q6,q7,BJ,← bY,← bV,wrap_i64 (n:=(p2:Int)+(M:Int)) AOh AOh]
   rcases h5:I_ ((b.drop p2).take M) cs[k] (ids.length:Int) with _ | l<;>rw[h5] at hdc hne<;>simp only[Dn] at hdc
   ·refine AAT _ hdc fun _=>?_
    simp only[WY] at hne
    rw[← hne,XU]
    simp only[go_sem,XV]
    try exact AKW
   refine AAT _ hdc fun _=>?_
   dsimp only at hne
   obtain⟨y1,y2,y3⟩:=XY hbd h5
   have hll:l.length=ids.length:=AOh
   simp only[go_sem,Dq]
   refine AB6 [] (A:=Nat) (fun x=>[(89,.c (.v (.int .i64 (x))))]) (fun x=>AF7 ids c l x) (fun x=>x≤ids.length) (fun x=>ids.length-x) 0 (Head.trans (AB3 [(0,false),(1,true)] ⟨rfl,rfl,CB _,Ec (BF _),trivial⟩ (by
    show (⟨125,_,[_,⟨204,2,((rowsOf ids c).map DRow.o).map (fun x=>x.map (TU [(0,false),(1,true)])),true,true⟩]⟩:MS)=_
    rw[Dz (BF _),lG]; rfl)) (vX ids c l 0)) (az _) ?_
   rintro x hx
   refine AOb (fun h=>?_) fun h=>?_
   ·have hx':x<ids.length:=by simp at h; omega
    have hxl:x<l.length:=AOh
    have hgl:(Gl ids c l x).length=ids.length:=Vt hx
    have hrow:(((Gl ids c l x).map DRow.o).set x [.v (.int .i64 (Kr ids c x).id),.ref 2])[x]?=some [.v (.int .i64 (Kr ids c x).id),.ref 2]:=by
     rw[yz]; simp[hgl,hx']
    rw[AA9 hx']
    simp only[go_sem,AA _ hxl,hgl,hx',hrow,ag]
    have hal:(Kr ids c x).l.length+1≤2147483648:=by simp only[Kr,ae]; omega
    refine ABU ?_
    simp only[go_sem,AA _ hxl,hgl,hx',hrow,ag,hal,wrap_i64 (n:=(x:Int)+1) AOh AOh]
    have hnx:(Gl ids c l (x+1)).map DRow.o=((Gl ids c l x).map DRow.o).set x (DRow.o (Kr ids (c ++ [l]) x)):=by rw[← vW hx',TT]
    have hrs:DRow.o (Kr ids (c ++ [l]) x) = [.v (.int .i64 (Kr ids c x).id),.ow 64 3 ((Kr ids c x).l.map DVal.c ++ [l[x].c])]:=by rw[vT hxl,← GV]; rfl
    have hR:((Gl ids c l (x+1)).map DRow.o).set x [.v (.int .i64 (Kr ids c x).id),.ow 64 3 ((Kr ids c x).l.map DVal.c ++ [l[x].c])]=(Gl ids c l (x+1)).map DRow.o:=by rw[hnx,ah,hrs]
    refine⟨x+1,Head.trans (ACS [(0,false),(1,true),(4,false)] 2 1 ⟨rfl,rfl,CB _, ?inn,Me _ _,trivial⟩
     ⟨x,(Gl ids c l (x+1)).map DRow.o,[.v (.int .i64 (Kr ids c x).id),.ref 2],[.v (.int .i64 (Kr ids c x).id),.ow 64 3 ((Kr ids c x).l.map DVal.c ++ [l[x].c])],_,⟨kL 1,rfl, ?rn, ?len,rfl⟩,
      ⟨rfl,rfl,rfl,rfl,rfl,rfl, ?nr,AO1,fun l hl=>AOv⟩,⟨rfl, ?tr⟩, ?eq⟩) (vX ids c l (x+1)),hx',AOh⟩
    case inn =>
     show ((((Gl ids c l x).map DRow.o).set x [.v (.int .i64 (Kr ids c x).id),.ref 2]).set x [.v (.int .i64 (Kr ids c x).id),.ref 4]).all (fun x=>x.all (inC [(0,false),(1,true),(4,false)]))=true
     exact ANX
    case rn =>
     show ((((Gl ids c l x).map DRow.o).set x [.v (.int .i64 (Kr ids c x).id),.ref 2]).set x [.v (.int .i64 (Kr ids c x).id),.ref 4]).map (fun x=>x.map (TU [(0,false),(1,true),(4,false)]))=_
     rw[ah,TT,Dz (BF _),hnx,ah]
     rfl
    case len=>simp only[ae]; rw[Vt AOh]; exact hx'
    case nr=>rw[← GV]; exact DD _
    case tr =>
     unfold BO
     rw[hR]
     exact all2 (AU (AQ _)) (AU (BF _))
    case eq =>
     unfold BO
     rw[hR]
     rfl
   ·have hx':x=ids.length:=by simp at h; omega
    rw[AA_ AOh]
    simp only[go_sem]
    subst hx'
    have hty:=lH h5
    have hta:=Df (l:=l) AOh
    simp only[go_sem,vU,wrap_i64 (n:=(k:Int)+1) AOh AOh,wrap_i64 (n:=(p2:Int)+(M:Int)) AOh AOh]
    exact⟨(k+1,p2+M,c ++ [l]),AB3 [(0,false),(1,true)] ⟨rfl,rfl,CB _,Ec (BF _),trivial⟩ (by
     show (⟨125,_,[_,⟨204,2,((rowsOf ids (c ++ [l])).map DRow.o).map (fun x=>x.map (TU [(0,false),(1,true)])),true,true⟩]⟩:MS)=_
     rw[Dz (BF _)]; rfl),⟨hk',by simp[hck],⟨fun y hy=>by
      rcases aaY.1 hy with hy | hy
      ·exact hcl y hy
      ·rw[abj.1 hy]; exact hll,fun y hy v hv=>by
      rcases aaY.1 hy with hy | hy
      ·exact hsz y hy v hv
      ·rw[abj.1 hy] at hv; exact UX (hta.2.2 v hv).1⟩,q6,fun q=>absurd q hids,fun _=>by
     rw[← hne,aaT]; congr 1; funext y; simp⟩,AOl⟩
  ·have hk':k=cs.length:=by simp at h; omega
   have hgc:F7 b cs ids q=some (c,p):=by
    exact AL2
   rw[hgc]
   simp only[go_sem]
   exact AGk
noncomputable def AF8 (cs b ids:List Int) (x:Option (List (List DVal)×Nat)):Option (List DRow):=match x with
 | none=>none
 | some (c,q)=>if q=b.length∧Dl cs (rowsOf ids c)=true then some (rowsOf ids c) else none
theorem XW (cs b ids:List Int):AF8 cs b ids none=none:=rfl
theorem ZP {cs b ids:List Int} {c:List (List DVal)} {p:Nat} (h:¬ (p=b.length∧Dl cs (rowsOf ids c)=true)):AF8 cs b ids (some (c,p))=none:=aZ h
theorem vZ {cs b ids:List Int} {c:List (List DVal)} {p:Nat} (h:p=b.length∧Dl cs (rowsOf ids c)=true):AF8 cs b ids (some (c,p))=some (rowsOf ids c):=bu h
def AF9 (ids:List Int) (c:List (List DVal)) (l:List DVal) (x:Nat):List Ob:=if x<ids.length then
  [⟨204,2,[],true,true⟩,⟨3,1,ids.map intC,true,true⟩,⟨204,2,((Gl ids c l x).map DRow.o).set x [.v (.int .i64 (Kr ids c x).id),.ref 3],true,true⟩,⟨64,3,(Kr ids c x).l.map DVal.c,true,true⟩]
 else [⟨204,2,[],true,true⟩,⟨3,1,ids.map intC,true,true⟩,⟨204,2,(Gl ids c l x).map DRow.o,true,true⟩]
theorem ABB {ids:List Int} {c:List (List DVal)} {l:List DVal} {x:Nat} (h:x<ids.length):AF9 ids c l x = [⟨204,2,[],true,true⟩,⟨3,1,ids.map intC,true,true⟩,⟨204,2,((Gl ids c l x).map DRow.o).set x [.v (.int .i64 (Kr ids c x).id),.ref 3],true,true⟩,⟨64,3,(Kr ids c x).l.map DVal.c,true,true⟩]:=bu h
theorem ABC {ids:List Int} {c:List (List DVal)} {l:List DVal} {x:Nat} (h:¬ x<ids.length):AF9 ids c l x = [⟨204,2,[],true,true⟩,⟨3,1,ids.map intC,true,true⟩,⟨204,2,(Gl ids c l x).map DRow.o,true,true⟩]:=aZ h
theorem lJ {n:Nat} {env:List (Nat×AV)} (ids:List Int) (c:List (List DVal)) (l:List DVal) (x:Nat) :
  Head ⟨n,env,[⟨204,2,[],true,true⟩,⟨3,1,ids.map intC,true,true⟩,⟨204,2,(Gl ids c l x).map DRow.o,true,true⟩]⟩ ⟨n,env,AF9 ids c l x⟩:=by
 by_cases h:x<ids.length
 ·rw[ABB h]
  exact Head.open' (s:=⟨n,env,[⟨204,2,[],true,true⟩,⟨3,1,ids.map intC,true,true⟩,⟨204,2,(Gl ids c l x).map DRow.o,true,true⟩]⟩) 2 x 1 (ob:=⟨204,2,(Gl ids c l x).map DRow.o,true,true⟩) (row:=DRow.o (Kr ids c x)) rfl rfl
   (by simp only[qp,vV h,bW]) rfl rfl
 ·rw[ABC h]
  exact⟨rfl,fun _ _ St β _ _ h=>⟨St,β,h⟩⟩
theorem AKF {N:Nat} {a b c:Ob} (ha:BD N a=true) (hb:BD N b=true) (hc:BD N c=true) : [a,b,c].all (BD N)=true:=by simp[ha,hb,hc]
theorem fJ (cs:List Int) (b:List Int) (hb:Ad b) (hl:b.length≤1048576):Ctr prog 294 [.c (.sl (cs.map intC)),.c (.sl (b.map byteC))] (XV (DK cs b)):=by
 refine CM call294 func294 ntmps294 results294 fun hw=>?_
 simp only[go_sem]
 have hg:=jU b 0 hb hl
 rcases h1:FT b 0 with _ | ⟨ids,q⟩<;>rw[h1] at hg<;>simp only[Y4] at hg
 ·have e:DK cs b=none:=by simp only[DK,h1]
  rw[e]
  refine AAT _ hg fun _=>?_
  simp only[go_sem,XV]
  try exact AKW
 refine AAT _ hg fun _=>?_
 obtain⟨n1,n2,n3⟩:=UZ hb h1
 simp only[go_sem]
 refine AAT _ (Pg _) fun _=>?_
 rcases hc:FN cs with _ | _
 ·have e:DK cs b=none:=by simp only[DK,h1,hc]; rfl
  rw[e]
  simp only[go_sem,hc,XV]
  try exact AKW
 rcases h12:decide ((ids.length:Int)>12) with _ | _
 rotate_left
 ·have e:DK cs b=none:=by simp only[DK,h1]; exact aZ fun q=>by simp at h12; omega
  rw[e]
  simp only[go_sem,hc,h12,XV]
  try exact AKW
 have h12':ids.length≤12:=by simp at h12; omega
 have hcs3:cs.length≤3:=by
  simp only[FN,ay] at hc
  have:=hc.2
  simp[Aa] at this; omega
 have hall:DK cs b=AF8 cs b ids (F7 b cs ids q):=by
  simp only[DK,h1]; exact bu ⟨hc,h12'⟩
 rw[hall]
 simp only[go_sem,hc,h12]
 refine AB6 [39] (A:=Nat) (fun x=>[(11,.c (.v (.int .i64 (x)))),(10,.c (.ref 2))]) (fun x=>[⟨204,2,[],true,true⟩,⟨3,1,ids.map intC,true,true⟩,⟨204,2,((ids.take x).map fun n=>(⟨n,[]⟩:DRow)).map DRow.o,true,true⟩]) (fun x=>x≤ids.length) (fun x=>ids.length-x) 0 (AB3 [(0,false),(1,false),(2,false)] ⟨rfl,rfl,rfl,CB _,rfl,trivial⟩ rfl) (az _) ?_
 rintro i hi
 refine AOb (fun h=>?_) fun h=>?_
 ·have hi':i<ids.length:=by simp at h; omega
  have hl2:i+1≤2147483648:=AOh
  simp only[go_sem,AA _ hi',hi',hl2,bz,dO hi,wrap_i64 (n:=(i:Int)+1) AOh AOh]
  have hnr:DI [[Cl.v (.int .i64 ids[i]),Cl.v (.slice none 0 0)]]=true:=rfl
  simp only[go_sem,hnr,AA _ hi',hi',hl2,bz,dO hi,wrap_i64 (n:=(i:Int)+1) AOh AOh]
  have hlen:(((ids.take i).map fun n=>(⟨n,[]⟩:DRow)).map DRow.o).length=i:=AOj
  refine⟨i+1,Head.trans (Head.nilI' 4 i 1 64 3 _ [.v (.int .i64 ids[i]),.v (.slice none 0 0)] (zs:=((ids.take i).map fun n=>(⟨n,[]⟩:DRow)).map DRow.o ++ [[.v (.int .i64 ids[i]),.ref 5]]) rfl ?row rfl ?set) (ACS [(0,false),(1,false),(4,true),(5,false)] 3 2 ⟨rfl,rfl,rfl,CB _,Jz DRow.o_nr _ _ rfl,rfl,trivial⟩
   ⟨i,((ids.take i).map fun n=>(⟨n,[]⟩:DRow)).map DRow.o ++ [DRow.o ⟨ids[i],[]⟩],[.v (.int .i64 ids[i]),.ref 3],DRow.o ⟨ids[i],[]⟩,_,⟨kL 2,rfl, ?rn,AOj,rfl⟩,
    ⟨rfl,rfl,rfl,rfl,rfl,rfl,rfl,AO1,fun l hl=>AOv⟩,⟨rfl, ?tr⟩, ?eq⟩),hi',AOh⟩
  case row=>simp only; rw[aY AOh,hlen]; simp
  case set=>simp only; rw[abh _ _ AOh,hlen]; simp
  case rn =>
   have:=Jy DRow.o_nr [(0,false),(1,false),(4,true),(5,false)] ((ids.take i).map fun n=>(⟨n,[]⟩:DRow)) [.v (.int .i64 ids[i]),.ref 5] (DRow.o ⟨ids[i],[]⟩)
   exact ANd
  case tr =>
   unfold BO
   have:=B_ (f:=DRow.o) ((ids.take i).map fun n=>(⟨n,[]⟩:DRow)) ⟨ids[i],[]⟩
   rw[show ((ids.take i).map fun n=>(⟨n,[]⟩:DRow)).length=i from AOj] at this
   rw[this]
   exact AKF rfl (AU (AQ _)) (AU (BF _))
  case eq =>
   exact ALz
 ·have hi':i=ids.length:=by simp at h; omega
  subst hi'
  simp only[go_sem,bD]
  have e0:(ids.map fun n=>(⟨n,[]⟩:DRow))=rowsOf ids []:=(fE ids).symm
  rw[e0]
  refine AB6 [] (A:=Nat×Nat×List (List DVal)) (fun x=>[(12,.c (.v (.int .i64 (x.1)))),(8,.c (.v (.int .i64 ((x.2.1:Int)))))]) (fun x=>[⟨204,2,[],true,true⟩,⟨3,1,ids.map intC,true,true⟩,⟨204,2,(rowsOf ids x.2.2).map DRow.o,true,true⟩]) (fun x=>x.1≤cs.length∧x.2.2.length=x.1∧((∀ c∈x.2.2,c.length=ids.length)∧(∀ c∈x.2.2,∀ v∈c,v.s.size≤6))∧x.2.1≤b.length∧(ids = []→x=(0,q,[]))∧(ids≠ []→(Gq b ids.length (cs.drop x.1) x.2.1).map (fun y=>(x.2.2++y.1,y.2))=Gq b ids.length cs q)) (fun x=>cs.length-x.1) (0,q,[]) (AB3 [(0,false),(1,false),(2,true)] ⟨rfl,rfl,rfl,CB _,Ec (BF _),trivial⟩ ?h0) ⟨az _,rfl,⟨AOi,AOi⟩,n1,fun _=>rfl,fun _=>AOi⟩ ?_
  case h0 =>
   show (⟨139,_,[_,_,⟨204,2,((rowsOf ids []).map DRow.o).map (fun x=>x.map (TU [(0,false),(1,false),(2,true)])),true,true⟩]⟩:MS)=_
   rw[Dz (BF _)]; rfl
  rintro⟨k,p,c⟩ ⟨hk,hck,⟨hcl,hsz⟩,hpb,hemp,hne⟩
  dsimp only at hk hck hcl hsz hpb hemp hne
  simp only[go_sem]
  rcases hk1:decide ((k:Int)<(cs.length:Int)) with _ | _
  ·have hk':k=cs.length:=by simp at hk1; omega
   have hgc:F7 b cs ids q=some (c,p):=by
    exact AL2
   rw[hgc]
   rcases hpl:((p:Int) != (b.length:Int)) with _ | _
   rotate_left
   ·have hno:¬ (p=b.length∧Dl cs (rowsOf ids c)=true):=fun q=>by simp at hpl; omega
    rw[ZP hno]
    simp only[go_sem,hk1,hpl,XV]
    try exact AKW
   simp only[go_sem,hk1,hpl]
   refine ACw (args:=[.c (.sl (cs.map intC)),.c (.sl ((rowsOf ids c).map DRow.c))]) _ (by simp only[Jo,Ac,go_sem]) rfl (V_ cs (rowsOf ids c) (by rw[Dq]; omega)) fun _=>?_
   rcases hok:Dl cs (rowsOf ids c) with _ | _
   ·have hno:¬ (p=b.length∧Dl cs (rowsOf ids c)=true):=fun q=>by rw[hok] at q; cases q.2
    rw[ZP hno]
    simp only[go_sem,hok,XV]
    try exact AKW
   ·have hyes:p=b.length∧Dl cs (rowsOf ids c)=true:=⟨by simp at hpl; omega,hok⟩
    rw[vZ hyes]
    simp only[go_sem,hok,XV,BF]
    try exact AIj
  have hk':k<cs.length:=APY
  rcases hi0:decide ((ids.length:Int)>0) with _ | _
  ·have hids:ids = []:=by
    apply aai
    simp at hi0; simp[hi0]
   have hx:=hemp hids
   simp only[bK] at hx
   obtain⟨_,hp0,hc0⟩:=hx
   have hgc:F7 b cs ids q=some (c,p):=by rw[hc0,hp0]; exact bu hids
   rw[hgc]
   rcases hpl:((p:Int) != (b.length:Int)) with _ | _
   rotate_left
   ·have hno:¬ (p=b.length∧Dl cs (rowsOf ids c)=true):=fun q=>by simp at hpl; omega
    rw[ZP hno]
    simp only[go_sem,hk1,hi0,hpl,XV]
    try exact AKW
   simp only[go_sem,hk1,hi0,hpl]
   refine ACw (args:=[.c (.sl (cs.map intC)),.c (.sl ((rowsOf ids c).map DRow.c))]) _ (by simp only[Jo,Ac,go_sem]) rfl (V_ cs (rowsOf ids c) (by rw[Dq]; omega)) fun _=>?_
   rcases hok:Dl cs (rowsOf ids c) with _ | _
   ·have hno:¬ (p=b.length∧Dl cs (rowsOf ids c)=true):=fun q=>by rw[hok] at q; cases q.2
    rw[ZP hno]
    simp only[go_sem,hok,XV]
    try exact AKW
   ·have hyes:p=b.length∧Dl cs (rowsOf ids c)=true:=⟨by simp at hpl; omega,hok⟩
    rw[vZ hyes]
    simp only[go_sem,hok,XV,BF]
    try exact AIj
  have hids:ids≠ []:=by rintro rfl; simp at hi0
  have hn0:0<ids.length:=aa0.2 hids
  have hne:=hne hids
  have hgc:F7 b cs ids q=Gq b ids.length cs q:=aZ hids
  rw[hgc]
  rw[QK hk',Gq] at hne
  simp only[go_sem,hk1,hi0]
  have hg2:=GM b p hb hl
  rcases h3:BX b p with _ | ⟨m,p2⟩<;>rw[h3] at hg2 hne<;>simp only[Vw] at hg2
  ·refine AAT _ hg2 fun _=>?_
   simp only[WY] at hne
   rw[← hne,XW]
   simp only[go_sem,XV]
   try exact AKW
  refine AAT _ hg2 fun _=>?_
  dsimp only at hne
  obtain⟨_,z2,z3,z4,z5,_⟩:=IA hb h3
  have hw1:IntKind.i64.wrap ((b.length:Int)-(p2:Int))=(b.length:Int)-(p2:Int):=wrap_i64 AOh AOh
  simp only[go_sem,hw1]
  refine AAT _ (AP _ _ _) fun _=>?_
  rcases h4:Aa m 0 ((b.length:Int)-(p2:Int)) with _ | _
  ·rw[aZ APd] at hne
   simp only[WY] at hne
   rw[← hne,XW]
   simp only[go_sem,h4,XV]
   try exact AKW
  have h4':0≤m∧m≤(b.length:Int)-(p2:Int):=APd
  rw[bu h4'] at hne
  obtain⟨M,rfl⟩:=aO h4'.1
  rw[bH] at hne
  have q1:=IP (k:=.i64) (n:=(p2:Int)) (m:=p2) AOh
  have q2:=IP (k:=.i64) (n:=(p2:Int)+(M:Int)) (m:=p2+M) AOh
  have q5:p2≤p2+M:=AOh
  have q6:p2+M≤b.length:=AOh
  have q7:p2+M-p2=M:=AOh
  have hbd:Ad ((b.drop p2).take M):=TK hb _ _
  have hdc:=qQ ((b.drop p2).take M) cs[k] (ids.length:Int) hbd AOj
  simp only[go_sem,h4]
  refine ABU ?_
  simp only[go_sem,AA _ hk',q1,q2,q5,q6,q7,BJ,← bY,← bV,wrap_i64 (n:=(p2:Int)+(M:Int)) AOh AOh]
  rcases h5:I_ ((b.drop p2).take M) cs[k] (ids.length:Int) with _ | l<;>rw[h5] at hdc hne<;>simp only[Dn] at hdc
  ·refine ACJ _ hdc ?_
   simp only[go_sem,AA _ hk',q1,q2,q5,q6,q7,BJ,← bY,← bV,wrap_i64 (n:=(p2:Int)+(M:Int)) AOh AOh]
   simp only[WY] at hne
   rw[← hne,XW]
   simp only[go_sem,XV]
   try exact AKW
  refine ACJ _ hdc ?_
  simp only[go_sem,AA _ hk',q1,q2,q5,q6,q7,BJ,← bY,← bV,wrap_i64 (n:=(p2:Int)+(M:Int)) AOh AOh]
  dsimp only at hne
  obtain⟨y1,y2,y3⟩:=XY hbd h5
  have hll:l.length=ids.length:=AOh
  refine AB6 [] (A:=Nat) (fun x=>[(18,.c (.v (.int .i64 (x))))]) (fun x=>AF9 ids c l x) (fun x=>x≤ids.length) (fun x=>ids.length-x) 0 (Head.trans (AB3 [(0,false),(1,false),(2,true)] ⟨rfl,rfl,rfl,CB _,Ec (BF _),trivial⟩ (by
   show (⟨139,_,[_,_,⟨204,2,((rowsOf ids c).map DRow.o).map (fun x=>x.map (TU [(0,false),(1,false),(2,true)])),true,true⟩]⟩:MS)=_
   rw[Dz (BF _),lG]; rfl)) (lJ ids c l 0)) (az _) ?_
  rintro x hx
  rcases bQ x ids.length with hx' | hx'
  ·have hdx:decide ((x:Int)<(ids.length:Int))=true:=by simpa using hx'
   have hxl:x<l.length:=AOh
   have hgl:(Gl ids c l x).length=ids.length:=Vt hx
   have hrow:(((Gl ids c l x).map DRow.o).set x [.v (.int .i64 (Kr ids c x).id),.ref 3])[x]?=some [.v (.int .i64 (Kr ids c x).id),.ref 3]:=by
    rw[yz]; simp[hgl,hx']
   rw[ABB hx']
   simp only[go_sem,hdx,AA _ hxl,hgl,hx',hrow,ag]
   have hal:(Kr ids c x).l.length+1≤2147483648:=by simp only[Kr,ae]; omega
   refine ABU ?_
   simp only[go_sem,AA _ hxl,hgl,hx',hrow,ag,hal,wrap_i64 (n:=(x:Int)+1) AOh AOh]
   have hnx:(Gl ids c l (x+1)).map DRow.o=((Gl ids c l x).map DRow.o).set x (DRow.o (Kr ids (c ++ [l]) x)):=by rw[← vW hx',TT]
   have hrs:DRow.o (Kr ids (c ++ [l]) x) = [.v (.int .i64 (Kr ids c x).id),.ow 64 3 ((Kr ids c x).l.map DVal.c ++ [l[x].c])]:=by rw[vT hxl,← GV]; rfl
   have hR:((Gl ids c l (x+1)).map DRow.o).set x [.v (.int .i64 (Kr ids c x).id),.ow 64 3 ((Kr ids c x).l.map DVal.c ++ [l[x].c])]=(Gl ids c l (x+1)).map DRow.o:=by rw[hnx,ah,hrs]
   refine⟨x+1,Head.trans (ACS [(0,false),(1,false),(2,true),(5,false)] 3 2 ⟨rfl,rfl,rfl,CB _, ?inn,Me _ _,trivial⟩
    ⟨x,(Gl ids c l (x+1)).map DRow.o,[.v (.int .i64 (Kr ids c x).id),.ref 3],[.v (.int .i64 (Kr ids c x).id),.ow 64 3 ((Kr ids c x).l.map DVal.c ++ [l[x].c])],_,⟨kL 2,rfl, ?rn, ?len,rfl⟩,
     ⟨rfl,rfl,rfl,rfl,rfl,rfl, ?nr,AO1,fun l hl=>AOv⟩,⟨rfl, ?tr⟩, ?eq⟩) (lJ ids c l (x+1)),hx',AOh⟩
   case inn =>
    show ((((Gl ids c l x).map DRow.o).set x [.v (.int .i64 (Kr ids c x).id),.ref 3]).set x [.v (.int .i64 (Kr ids c x).id),.ref 5]).all (fun x=>x.all (inC [(0,false),(1,false),(2,true),(5,false)]))=true
    exact ANX
   case rn =>
    show ((((Gl ids c l x).map DRow.o).set x [.v (.int .i64 (Kr ids c x).id),.ref 3]).set x [.v (.int .i64 (Kr ids c x).id),.ref 5]).map (fun x=>x.map (TU [(0,false),(1,false),(2,true),(5,false)]))=_
    rw[ah,TT,Dz (BF _),hnx,ah]
    rfl
   case len=>simp only[ae]; rw[Vt AOh]; exact hx'
   case nr=>rw[← GV]; exact DD _
   case tr =>
    unfold BO
    rw[hR]
    exact AKF rfl (AU (AQ _)) (AU (BF _))
   case eq =>
    unfold BO
    rw[hR]
    rfl
  ·have hdx:decide ((x:Int)<(ids.length:Int))=false:=by simp; omega
   have hx':x=ids.length:=AOh
   rw[ABC AOh]
   simp only[go_sem,hdx]
   subst hx'
   have hty:=lH h5
   have hta:=Df (l:=l) AOh
   simp only[go_sem,vU,wrap_i64 (n:=(k:Int)+1) AOh AOh,wrap_i64 (n:=(p2:Int)+(M:Int)) AOh AOh]
   exact⟨(k+1,p2+M,c ++ [l]),AB3 [(0,false),(1,false),(2,true)] ⟨rfl,rfl,rfl,CB _,Ec (BF _),trivial⟩ (by
    show (⟨139,_,[_,_,⟨204,2,((rowsOf ids (c ++ [l])).map DRow.o).map (fun x=>x.map (TU [(0,false),(1,false),(2,true)])),true,true⟩]⟩:MS)=_
    rw[Dz (BF _)]; rfl),⟨hk',by simp[hck],⟨fun y hy=>by
     rcases aaY.1 hy with hy | hy
     ·exact hcl y hy
     ·rw[abj.1 hy]; exact hll,fun y hy v hv=>by
     rcases aaY.1 hy with hy | hy
     ·exact hsz y hy v hv
     ·rw[abj.1 hy] at hv; exact UX (hta.2.2 v hv).1⟩,q6,fun q=>absurd q hids,fun _=>by
    rw[← hne,aaT]; congr 1; funext y; simp⟩,AOl⟩
theorem RS (a b c:Int):Ctr prog 29 [.c (.v (.int .i64 a)),.c (.v (.int .i64 b)),.c (.v (.int .i64 c))] [.val (.c (.v (.bool (decide (a≥b)&&decide (a≤c)))))]:=by
 refine CM call29 func29 ntmps29 results29 fun hw=>?_
 rcases h1:decide (a≥b) with _ | _<;>simp only[go_sem,h1]<;>simp only[ai,aj]
def came (n ts:Int):Bool:=decide (n≥1)&&decide (n≤ts)
theorem fK (n ts:Int):Ctr prog 266 [.c (.v (.int .i64 n)),.c (.v (.int .i64 ts))] [.val (.c (.v (.bool (came n ts))))]:=by
 refine CM call266 func266 ntmps266 results266 fun hw=>?_
 simp only[go_sem]
 refine AAT _ (RS n 1 ts) fun _=>?_
 simp only[go_sem,came]
theorem fM (n ts:Int):Ctr prog 274 [.c (.v (.int .i64 n)),.c (.v (.int .i64 ts))] [.val (.c (.v (.bool (came n ts))))]:=by
 refine CM call274 func274 ntmps274 results274 fun hw=>?_
 rcases h1:decide (n≥1) with _ | _<;>simp only[go_sem,h1]<;>simp only[came,h1,ai,aj]
def Qd (w:DWorld) (n:Int):Option DBuf:=if 0≤n then w.b[n.toNat]? else none
def MC (b:DBuf) (r:DRef):Bool:=(b.gen==r.gen)&&((b.kind==r.kind)&&((r.kind != 1)||((b.c0.l.length:Int)==r.many)))
def there (w:DWorld) (r:DRef):Bool:=match Qd w r.buf with
 | none=>false
 | some b=>MC b r
theorem DR (w:DWorld) (n:Int):(∃ (k:Nat) (h:k<w.b.length),n=k∧Qd w n=some w.b[k])∨((n<0∨(w.b.length:Int)≤n)∧Qd w n=none):=by
 unfold Qd
 by_cases h0:0≤n
 ·obtain⟨k,rfl⟩:=aO h0
  by_cases h1:k<w.b.length
  ·exact .inl ⟨k,h1,rfl,by simp[h1]⟩
  ·refine .inr ⟨.inr AOh, ?_⟩
   simp only[h0,aX,bH]
   exact uU AOh
 ·exact .inr ⟨.inl AOh,by simp[h0]⟩
theorem Eu (w:DWorld) (r:DRef):Ctr prog 195 [.agg w.c,.agg r.c] [.val (.c (.v (.bool (there w r))))]:=by
 refine CM call195 func195 ntmps195 results195 fun hw=>?_
 have hlenb:w.b.length≤9223372036854775807:=by have:=hw.1.2.2.2.2.2.2.2.2.1.1; simpa [Go.maxLen] using this
 simp only[go_sem,ae]
 try refine AAm ?_
 try simp only[go_sem,ae]
 first | refine AB5 _ (RS r.buf 0 _) ?_ | refine AAT _ (RS r.buf 0 _) fun _=>?_
 simp only[go_sem,ae]
 rw[wrap_i64 (n:=(w.b.length:Int)-1) AOh AOh]
 rcases DR w r.buf with ⟨k,hk,hb,hat⟩ | ⟨hb,hat⟩
 ·have e0:decide ((k:Int)≥0)=true:=by simp
  have e1:decide ((k:Int)≤(w.b.length:Int)-1)=true:=AOj
  have hth:there w r=MC w.b[k] r:=by simp only[there,hat]
  rw[hth]
  rcases h1:w.b[k].gen != r.gen with _ | _<;>rcases h2:w.b[k].kind != r.kind with _ | _<;>rcases h3:r.kind != 1 with _ | _ <;>
   simp only[go_sem,ae,hb,e0,e1,AA _ hk,hk,h1,h2,h3] <;>
   simp only[bne_iff_ne,bne_eq_false_iff_eq,ne_eq,aa4,beq_eq_false_iff_ne] at h1 h2 h3 <;>
   first | (simp[MC,h1,h2,h3]; done) | (simp[MC,h1,h2,h3]; intro hh; exact absurd (hh.trans h3.symm) h2)
 ·have e1:(decide (r.buf≥0)&&decide (r.buf≤(w.b.length:Int)-1))=false:=by
   rw[Bool.and_eq_false_iff]
   by_cases h0:0≤r.buf
   ·right; simp; omega
   ·left; simp; omega
  have hth:there w r=false:=by simp only[there,hat]
  simp only[go_sem,ae,e1,hth]
theorem BQ (w:DWorld) (r:DRef):Ctr prog 224 [.agg w.c,.agg r.c] [.val (.c (.v (.bool (there w r))))]:=by
 refine CM call224 func224 ntmps224 results224 fun hw=>?_
 rcases DR w r.buf with ⟨k,hk,hb,hat⟩ | ⟨hb,hat⟩
 ·have e1:decide (r.buf<0)=false:=by rw[hb]; simp
  have e2:decide ((k:Int)≥w.b.length)=false:=AOj
  have e3:decide ((k:Int)<0)=false:=AOi
  have hth:there w r=MC w.b[k] r:=by simp only[there,hat]
  rw[hth]
  rcases h1:w.b[k].gen==r.gen with _ | _<;>rcases h2:w.b[k].kind==r.kind with _ | _<;>rcases h3:r.kind != 1 with _ | _ <;>
   simp only[go_sem,ae,hb,e2,e3,AA _ hk,hk,h1,h2,h3] <;>
   simp only[MC,h1,h2,h3,aj,ai,cZ,bT]
 ·have hth:there w r=false:=by simp only[there,hat]
  rcases h0:decide (r.buf<0) with _ | _
  ·have e2:decide (r.buf≥(w.b.length:Int))=true:=by simp at h0 ⊢; omega
   simp only[go_sem,ae,h0,e2,hth]
  ·simp only[go_sem,ae,h0,hth]
def FQ:DChunk:=⟨0,[]⟩
def Bl (w:DWorld) (r:DRef):DChunk×Bool:=match Qd w r.buf with
 | none=>(FQ,false)
 | some b=>if(r.kind==1&&MC b r)=true then(b.c0,true) else(FQ,false)
theorem JJ (w:DWorld) (r:DRef):Ctr prog 154 [.agg w.c,.agg r.c] [.val (.agg (Bl w r).1.c),.val (.c (.v (.bool (Bl w r).2)))]:=by
 refine CM call154 func154 ntmps154 results154 fun hw=>?_
 rcases h1:r.kind != 1 with _ | _
 ·have hk1:(r.kind==1)=true:=by simpa using h1
  simp only[go_sem,h1]
  try refine AAm ?_
  try simp only[go_sem,h1]
  first | refine CY (BQ w r) ?_ | refine CW (BQ w r) fun _=>?_
  rcases h2:there w r with _ | _
  ·have hc:Bl w r=(FQ,false):=by
    unfold Bl
    unfold there at h2
    split
    ·rfl
    ·rename_i b hb
     simp only[hb] at h2
     simp[h2]
   simp only[go_sem,h1,h2,hc,FQ,cu]
  ·obtain⟨k,hk,hb,hat⟩ | ⟨hb,hat⟩:=DR w r.buf
   ·have hc:Bl w r=(w.b[k].c0,true):=by
     unfold Bl
     simp only[there,hat] at h2
     simp[hat,h2,hk1]
    simp only[go_sem,h1,h2,hb,AA _ hk,hk,hc]
   ·simp only[there,hat] at h2
    cases h2
 ·have hk1:(r.kind==1)=false:=by simpa using h1
  have hc:Bl w r=(FQ,false):=by
   unfold Bl
   split
   ·rfl
   ·simp[hk1]
  simp only[go_sem,h1,hc,FQ,cu]
  try refine AAm ?_
  try simp only[go_sem,h1,hc,FQ,cu]
def Nk (c:DChunk) (ts:Int):Bool:=(c.l.all fun x=>came x.ins ts)&&(c.next==(c.l.length:Int))
theorem ve {c:DChunk} {ts:Int} {k:Nat} (hk:k<c.l.length) (h:came c.l[k].ins ts=false):Nk c ts=false:=by
 unfold Nk
 rw[Bool.and_eq_false_iff]
 left
 rw[abr]
 intro h2
 have:=aP.1 h2 _ (ax hk)
 rw[h] at this; cases this
theorem lK {c:DChunk} {ts:Int} (h:∀ i (hi:i<c.l.length),came c.l[i].ins ts=true):Nk c ts=(c.next==(c.l.length:Int)):=by
 unfold Nk
 have:(c.l.all fun x=>came x.ins ts)=true:=aP.2 fun x hx=>by
  obtain⟨i,hi,rfl⟩:=abo.1 hx
  exact h i hi
 rw[this,aj]
theorem YT (c:DChunk) (ts:Int) (hl:c.l.length≤1048576):Ctr prog 172 [.agg c.c,.c (.v (.int .i64 (ts)))] [.val (.c (.v (.bool (Nk c ts))))]:=by
 refine CM call172 func172 ntmps172 results172 fun hw=>?_
 simp only[go_sem]
 refine AB4 1 (A:=Nat) (fun x=>[(10,.c (.v (.int .i64 (x))))]) (fun _=>[⟨140,2,[c.c],true,true⟩]) (fun x=>x≤c.l.length∧∀ i (h:i<c.l.length),i<x→came c.l[i].ins ts=true) (fun x=>c.l.length-x) 0 ⟨⟨rfl,rfl⟩,rfl,az _,fun i h h2=>AOh⟩ ?_
 rintro k ⟨hk,hall⟩
 refine AOb (fun h=>?_) fun h=>?_
 ·have hk':k<c.l.length:=by simpa using h
  simp only[go_sem,AA _ hk',hk']
  try refine AAm ?_
  try simp only[go_sem,AA _ hk',hk']
  first | refine AB5 _ (fM c.l[k].ins ts) ?_ | refine AAT _ (fM c.l[k].ins ts) fun _=>?_
  exact ALa
 ·have hk':k=c.l.length:=by simp at h; omega
  subst hk'
  rw[lK fun i hi=>hall i hi hi]
  exact AIk
theorem vg (c:DChunk) (ts:Int) (hl:c.l.length≤1048576):Ctr prog 163 [.agg c.c,.c (.v (.int .i64 (ts)))] [.val (.c (.v (.bool (Nk c ts))))]:=by
 refine CM call163 func163 ntmps163 results163 fun hw=>?_
 simp only[go_sem]
 refine AB4 1 (A:=Nat) (fun x=>[(5,.c (.v (.int .i64 (x))))]) (fun _=>[⟨140,2,[c.c],true,true⟩]) (fun x=>x≤c.l.length∧∀ i (h:i<c.l.length),i<x→came c.l[i].ins ts=true) (fun x=>c.l.length-x) 0 ⟨⟨rfl,rfl⟩,rfl,az _,fun i h h2=>AOh⟩ ?_
 rintro k ⟨hk,hall⟩
 refine AOb (fun h=>?_) fun h=>?_
 ·have hk':k<c.l.length:=by simpa using h
  simp only[go_sem,AA _ hk',hk']
  try refine AAm ?_
  try simp only[go_sem,AA _ hk',hk']
  first | refine AB5 _ (fK c.l[k].ins ts) ?_ | refine AAT _ (fK c.l[k].ins ts) fun _=>?_
  exact ALa
 ·have hk':k=c.l.length:=by simp at h; omega
  subst hk'
  rw[lK fun i hi=>hall i hi hi]
  exact AIk
noncomputable def C_ (w:DWorld) (r:DRef):List DRow:=match Qd w r.buf with
 | none=>[]
 | some b=>(DK w.c0.cols b.g).getD []
theorem Le {l:List Int} (h:kU (l.map byteC)):Ad l:=fun n hn=>by
 have h1:=ZG h _ (kN.2 ⟨n,hn,rfl⟩)
 have h2:QZ (.int .u8 n)=true:=h1.1
 simp[QZ,Lit.wf,isByte,IntKind.min,IntKind.max,IntKind.bits,IntKind.signed] at h2 ⊢
 omega
theorem J4:∀ (a b:List Cl),XH (a++b)→XH a∧XH b
 | [],b,h=>⟨trivial,h⟩
 | c::a,b,h=>⟨⟨h.1,(J4 a b h.2).1⟩,(J4 a b h.2).2⟩
theorem Vu {w:DWorld} {k:Nat} (h:XH w.c) (hk:k<w.b.length):Ad w.b[k].g:=by
 rw[DWorld.c_eq] at h
 have h1:=(J4 _ _ (J4 _ _ (J4 _ _ (J4 _ _ (J4 _ _ (J4 _ _ h).2).2).2).2).2).1.1
 simp only[uj] at h1
 have h2:=ZG h1.2 _ (kN.2 ⟨w.b[k],ax hk,rfl⟩)
 rw[DBuf.c_eq] at h2
 have h3:=(J4 _ _ (J4 _ _ (J4 _ _ h2).2).2).2.1
 simp only[uj] at h3
 exact Le h3.2
theorem IL {w:DWorld} (hf:AX w) {k:Nat} (hk:k<w.b.length):F_ w.b[k].c0∧w.b[k].g.length≤1048576:=by
 rw[A8] at hf
 have:=hf.2.2.1.2 _ (ax hk)
 rw[H9] at this
 exact this
theorem ABD (x:Option (List DRow)):(XV x).map dV = [.val (.c (.sl ((x.getD []).map DRow.c))),.val (.c (.v (.bool (x.isSome))))]:=by
 cases x with
 | none=>rfl
 | some l =>
  simp only[XV,YG,cu,dV,Jo]
  rfl
theorem fO (cs:List Int) (b:List Int) (hb:Ad b) (hl:b.length≤1048576):Ctr prog 294 [.c (.sl (cs.map intC)),.c (.sl (b.map byteC))] [.val (.c (.sl (((DK cs b).getD []).map DRow.c))),.val (.c (.v (.bool ((DK cs b).isSome))))]:=by
 rw[← ABD]; exact(fJ cs b hb hl).frz
theorem UY (cs:List Int) (b:List Int) (hb:Ad b) (hl:b.length≤1048576):Ctr prog 306 [.c (.sl (cs.map intC)),.c (.sl (b.map byteC))] [.val (.c (.sl (((DK cs b).getD []).map DRow.c))),.val (.c (.v (.bool ((DK cs b).isSome))))]:=by
 rw[← ABD]; exact(fH cs b hb hl).frz
theorem Kt (w:DWorld) (r:DRef) {k:Nat} (hf:AX w) (hk:k<w.b.length) (hb:r.buf=(k:Int)):Ctr prog 196 [.agg w.c,.agg r.c] [.val (.c (.sl ((C_ w r).map DRow.c)))]:=by
 refine CM call196 func196 ntmps196 results196 fun hw=>?_
 have hbo:=Vu hw.1 hk
 have hg:C_ w r=(DK w.c0.cols w.b[k].g).getD []:=by simp only[C_,Qd,hb]; simp[hk]
 simp only[go_sem,hb,AA _ hk,hk]
 refine AAm ?_
 simp only[go_sem,hb,AA _ hk,hk]
 refine AB5 _ (fO w.c0.cols w.b[k].g hbo (IL hf hk).2) ?_
 simp only[go_sem,hg]
theorem FD (w:DWorld) (r:DRef) (hf:AX w):Ctr prog 225 [.agg w.c,.agg r.c] [.val (.c (.sl ((if(r.kind==2&&there w r)=true then C_ w r else []).map DRow.c)))]:=by
 refine CM call225 func225 ntmps225 results225 fun hw=>?_
 rcases h1:r.kind != 2 with _ | _
 ·have hk1:(r.kind==2)=true:=by simpa using h1
  simp only[go_sem,h1,hk1,aj]
  try refine AAm ?_
  try simp only[go_sem,h1]
  first | refine CY (BQ w r) ?_ | refine CW (BQ w r) fun _=>?_
  rcases h2:there w r with _ | _
  ·simp only[go_sem,h1,h2]
  ·obtain⟨k,hk,hb,hat⟩ | ⟨hb,hat⟩:=DR w r.buf
   ·have hbo:=Vu hw.1 hk
    have hg:C_ w r=(DK w.c0.cols w.b[k].g).getD []:=by simp only[C_,hat]
    simp only[go_sem,h1,h2,hb,AA _ hk,hk]
    try refine AAm ?_
    try simp only[go_sem,h1,h2,hb,AA _ hk,hk]
    first | refine AB5 _ (UY w.c0.cols w.b[k].g hbo (IL hf hk).2) ?_ | refine AAT _ (UY w.c0.cols w.b[k].g hbo (IL hf hk).2) fun _=>?_
    simp only[go_sem,hg]
   ·simp only[there,hat] at h2
    cases h2
 ·have hk1:(r.kind==2)=false:=by simpa using h1
  simp only[go_sem,h1,hk1,ai]
  try refine AAm ?_
  try simp only[go_sem,h1,hk1]
  trace_state
end Go.Proofs.YtnoldekcdlaahaaGreat
