/- A part. -/
import Derived.Test.YthmifbbmgnhddaaGreatYq
set_option linter.unusedSimpArgs false
set_option linter.unusedVariables false
set_option maxHeartbeats 2000000
set_option maxRecDepth 10000
namespace Go.Vm
theorem Head.open {s:MS} (l i off:Nat) {ob:Ob} {row:List Cl} {ty:TypeId} {sz:Nat} {xs:List (List Cl)} (hob:EH s.st l=some ob) (hwr:ob.wr=true) (hrow:ob.xs[i]?=some row) (hcell:row[off]?=some (.ow ty sz xs)) :
  Head s ⟨s.n,s.env,J4 s.st l i off ob row ty sz xs⟩:=⟨rfl,fun w0 St0 St β a w hc=>by
 obtain⟨b,u,β',_,_,h,_⟩:=hc.openCell hob hwr hrow hcell
 exact⟨St,β',h⟩⟩
theorem Head.nilI {s:MS} (l i j e n:Nat) (ob:Ob) (row:List Cl) (hob:s.st[l]?=some ob) (hrow:ob.xs[i]?=some row) (h:row[j]?=some (.v (.slice none 0 0))) :
  Head s ⟨s.n,s.env,s.st.set l ⟨ob.ty,ob.sz,ob.xs.set i (row.set j (.ref s.st.length)),ob.wr,ob.live⟩ ++ [⟨e,n,[],true,true⟩]⟩:=⟨rfl,fun w0 St0 St β a w hc=>by
 obtain⟨β',h1,h2⟩:=hc.nilOb e n
 have hl:l<s.st.length:=(aP.1 hob).1
 have hi:i<ob.xs.length:=(aP.1 hrow).1
 have hj:j<row.length:=(aP.1 h).1
 have hri:ob.xs[i]=row:=(aP.1 hrow).2
 have hg:∀ (l2:Nat) (o2:Ob),(s.st.set l ⟨ob.ty,ob.sz,ob.xs.set i (row.set j (.ref s.st.length)),ob.wr,ob.live⟩ ++ [⟨e,n,[],true,true⟩])[l2]?=some o2→(l2=l∧o2=⟨ob.ty,ob.sz,ob.xs.set i (row.set j (.ref s.st.length)),ob.wr,ob.live⟩)∨(l2≠l∧(s.st ++ [(⟨e,n,[],true,true⟩:Ob)])[l2]?=some o2):=by
  intro l2 o2 h2
  by_cases e1:l2=l
  ·subst e1
   rw[bM ARm,vG] at h2
   simp[hl] at h2
   exact .inl ⟨rfl,h2.symm⟩
  ·refine .inr ⟨e1, ?_⟩
   rw[List.getElem?_append] at h2 ⊢
   simp only[bi] at h2
   split at h2
   ·rename_i hlt
    rw[vG,bu (fun e2=>e1 e2.symm)] at h2
    rw[bG hlt]; exact h2
   ·rename_i hlt
    rw[bu hlt]; exact h2
 have hg2:∀ (l2:Nat) (o2:Ob),(s.st ++ [(⟨e,n,[],true,true⟩:Ob)])[l2]?=some o2→∃ o3,(s.st.set l ⟨ob.ty,ob.sz,ob.xs.set i (row.set j (.ref s.st.length)),ob.wr,ob.live⟩ ++ [⟨e,n,[],true,true⟩])[l2]?=some o3∧o3.live=o2.live∧o3.sz=o2.sz∧o3.ty=o2.ty∧o3.xs.length=o2.xs.length:=by
  intro l2 o2 h2
  by_cases e1:l2=l
  ·subst e1
   rw[bM hl,hob] at h2
   cases h2
   exact⟨⟨ob.ty,ob.sz,ob.xs.set i (row.set j (.ref s.st.length)),ob.wr,ob.live⟩,by rw[bM ARm,vG]; simp only[bH,hl],rfl,rfl,rfl,AQ3⟩
  ·refine⟨o2, ?_,rfl,rfl,rfl,rfl⟩
   rw[List.getElem?_append] at h2 ⊢
   simp only[bi]
   split at h2
   ·rename_i hlt
    rw[bG hlt,vG,bu (fun e2=>e1 e2.symm)]; exact h2
   ·rename_i hlt
    rw[bu hlt]; exact h2
 have hr:∀ (l2:Nat) (u:Value),BZ w (s.st ++ [⟨e,n,[],true,true⟩]) β' l2 u→BZ w (s.st.set l ⟨ob.ty,ob.sz,ob.xs.set i (row.set j (.ref s.st.length)),ob.wr,ob.live⟩ ++ [⟨e,n,[],true,true⟩]) β' l2 u:=by
  intro l2 u hu
  unfold BZ at hu ⊢
  cases hq:(s.st ++ [(⟨e,n,[],true,true⟩:Ob)])[l2]? with
  | none=>simp[hq] at hu
  | some o2 =>
   obtain⟨o3,p1,p2,p3,p4,p5⟩:=hg2 l2 o2 hq
   simp only[hq] at hu
   simp only[p1]
   refine⟨hu.1,fun hlv=>?_⟩
   have h3:=hu.2 (by rw[← p2]; exact hlv)
   cases hβ:β' l2 with
   | none=>simp only[hβ] at h3 ⊢; exact⟨h3.1,bY (by rw[p5,h3.2]; rfl)⟩
   | some b=>simp only[hβ] at h3 ⊢; simpa only[p3,p4,p5] using h3
 refine⟨St,β',h1.reTell _ _ hr (fun l2 i off u hu=>?_) (fun i u hu=>hu) (fun l2 o' hl2 hlv=>?_)⟩
 ·simp only[AVR] at hu ⊢
  cases hq:(s.st ++ [(⟨e,n,[],true,true⟩:Ob)])[l2]? with
  | none=>simp[hq] at hu
  | some o2 =>
   obtain⟨o3,p1,p2,p3,_⟩:=hg2 l2 o2 hq
   simp only[hq] at hu
   simp only[p1,p2,p3]
   exact hu
 ·rcases hg l2 o' hl2 with ⟨rfl,rfl⟩ | ⟨_,h3⟩
  ·refine⟨ob,by rw[bM hl]; exact hob,hlv,rfl,rfl,rfl,AQ3,fun hx x hx2=>?_,fun k c' hk=>?_⟩
   ·rcases abd hx2 with hx2 | hx2
    ·exact hx x hx2
    ·rw[hx2,bi]
     exact hx row (by rw[← hri]; exact aj hi)
   ·have e1:ob.xs.flatten=(ob.xs.take i).flatten++(row++(ob.xs.drop (i+1)).flatten):=by
     conv=>lhs; rw[← aas i ob.xs]
     rw[aaS,aA hi,lL,hri]
    have e2:(ob.xs.set i (row.set j (.ref s.st.length))).flatten=(ob.xs.take i).flatten++(row.set j (.ref s.st.length)++(ob.xs.drop (i+1)).flatten):=by
     rw[List.set_eq_take_append_cons_drop,bG hi,aaS,lL]
    rw[e2] at hk
    rw[e1]
    by_cases h3:k<(ob.xs.take i).flatten.length
    ·rw[bM h3] at hk ⊢
     exact⟨c',hk,fun _ h=>h,fun _=>rfl⟩
    ·rw[bf AQ2] at hk ⊢
     generalize k-(ob.xs.take i).flatten.length=k2 at hk
     by_cases h4:k2<row.length
     ·rw[bM ARd,vG] at hk
      rw[bM h4]
      by_cases e3:j=k2
      ·subst e3
       exact APl
      ·rw[bu e3] at hk
       exact⟨c',hk,fun _ h=>h,fun _=>rfl⟩
     ·rw[bf AQ5,bi] at hk
      rw[bf AQ2]
      exact⟨c',hk,fun _ h=>h,fun _=>rfl⟩
  ·exact⟨o',h3,hlv,rfl,rfl,rfl,rfl,fun h=>h,fun k c hk=>⟨c,hk,fun _ h=>h,fun _=>rfl⟩⟩⟩
theorem Head.open' {s:MS} (l i off:Nat) {ob:Ob} {row:List Cl} {ty:TypeId} {sz:Nat} {xs zs:List (List Cl)} (hob:EH s.st l=some ob) (hwr:ob.wr=true) (hrow:ob.xs[i]?=some row) (hcell:row[off]?=some (.ow ty sz xs)) (e:ob.xs.set i (row.set off (.ref s.st.length))=zs) :
  Head s ⟨s.n,s.env,s.st.set l ⟨ob.ty,ob.sz,zs,ob.wr,ob.live⟩ ++ [⟨ty,sz,xs,true,true⟩]⟩:=by
 subst e
 exact Head.open l i off hob hwr hrow hcell
theorem Head.nilI' {s:MS} (l i j e n:Nat) (ob:Ob) (row:List Cl) {zs:List (List Cl)} (hob:s.st[l]?=some ob) (hrow:ob.xs[i]?=some row) (h:row[j]?=some (.v (.slice none 0 0))) (he:ob.xs.set i (row.set j (.ref s.st.length))=zs) :
  Head s ⟨s.n,s.env,s.st.set l ⟨ob.ty,ob.sz,zs,ob.wr,ob.live⟩ ++ [⟨e,n,[],true,true⟩]⟩:=by
 subst he
 exact Head.nilI l i j e n ob row hob hrow h
end Go.Vm
open Go.Proofs.Tryz
namespace Go.Proofs.YthmifbbmgnhddaaGreat
open Go.Vm
theorem jY (ids:List Int):rowsOf ids []=ids.map fun n=>(⟨n,[]⟩:DRow):=by
 unfold rowsOf
 exact APB
def La (ids:List Int) (c:List (List DVal)) (x:Nat):DRow:=⟨(ids[x]?).getD 0,c.map fun v=>(v[x]?).getD rowsOf.zeroW⟩
theorem og (ids:List Int) (c:List (List DVal)):rowsOf ids c=(List.range ids.length).map (La ids c):=rfl
theorem jZ {ids:List Int} {c:List (List DVal)} {x:Nat} (h:x<ids.length):(rowsOf ids c)[x]?=some (La ids c x):=by
 rw[og,lg,List.getElem?_range h]; rfl
theorem zI {ids:List Int} {c:List (List DVal)} {l:List DVal} {x:Nat} (h:x<l.length):La ids (c ++ [l]) x=⟨(La ids c x).id,(La ids c x).l ++ [l[x]]⟩:=by
 simp only[La,bQ,TA,df,aC h,ak]
def G_ (ids:List Int) (c:List (List DVal)) (l:List DVal) (x:Nat):List DRow:=(rowsOf ids (c ++ [l])).take x++(rowsOf ids c).drop x
theorem oh (ids:List Int) (c:List (List DVal)) (l:List DVal):G_ ids c l 0=rowsOf ids c:=rfl
theorem zJ (ids:List Int) (c:List (List DVal)) (l:List DVal):G_ ids c l ids.length=rowsOf ids (c ++ [l]):=by
 unfold G_
 rw[aat (by rw[Du]; omega),List.drop_eq_nil_of_le (by rw[Du]; omega),bK]
theorem Xi {ids:List Int} {c:List (List DVal)} {l:List DVal} {x:Nat} (h:x≤ids.length):(G_ ids c l x).length=ids.length:=by
 simp only[G_,aN,bJ,aaP,Du]; omega
theorem zK {ids:List Int} {c:List (List DVal)} {l:List DVal} {x:Nat} (h:x<ids.length):(G_ ids c l x)[x]?=some (La ids c x):=by
 unfold G_
 rw[bf (by simp[Du]; omega)]
 simp only[bJ,Du,dO (Nat.le_of_lt h),ZO,abb,abu]
 exact jZ h
theorem zL {ids:List Int} {c:List (List DVal)} {l:List DVal} {x:Nat} (h:x<ids.length):(G_ ids c l x).set x (La ids (c ++ [l]) x)=G_ ids c l (x+1):=by
 have hx:x<(rowsOf ids (c ++ [l])).length:=by rw[Du]; exact h
 have hx2:x<(rowsOf ids c).length:=by rw[Du]; exact h
 have e1:(rowsOf ids (c ++ [l]))[x]=La ids (c ++ [l]) x:=by
  have:=jZ (c:=c ++ [l]) h
  rw[aC hx] at this
  exact yH this
 unfold G_
 rw[aaB hx,e1,aaK _ _ AQ5,bJ,dO (Nat.le_of_lt hx),ZO,aA hx2,List.set_cons_zero,aZ]
 rfl
def AIY (ids:List Int) (c:List (List DVal)) (l:List DVal) (x:Nat):List Ob:=if x<ids.length then
  [⟨3,1,ids.map intC,true,true⟩,⟨201,2,((G_ ids c l x).map DRow.o).set x [.v (.int .i64 (La ids c x).id),.ref 2],true,true⟩,⟨66,3,(La ids c x).l.map DVal.c,true,true⟩]
 else [⟨3,1,ids.map intC,true,true⟩,⟨201,2,(G_ ids c l x).map DRow.o,true,true⟩]
theorem AC5 {ids:List Int} {c:List (List DVal)} {l:List DVal} {x:Nat} (h:x<ids.length):AIY ids c l x = [⟨3,1,ids.map intC,true,true⟩,⟨201,2,((G_ ids c l x).map DRow.o).set x [.v (.int .i64 (La ids c x).id),.ref 2],true,true⟩,⟨66,3,(La ids c x).l.map DVal.c,true,true⟩]:=bG h
theorem AC6 {ids:List Int} {c:List (List DVal)} {l:List DVal} {x:Nat} (h:¬ x<ids.length):AIY ids c l x = [⟨3,1,ids.map intC,true,true⟩,⟨201,2,(G_ ids c l x).map DRow.o,true,true⟩]:=bu h
theorem zM {n:Nat} {env:List (Nat×AV)} (ids:List Int) (c:List (List DVal)) (l:List DVal) (x:Nat) :
  Head ⟨n,env,[⟨3,1,ids.map intC,true,true⟩,⟨201,2,(G_ ids c l x).map DRow.o,true,true⟩]⟩ ⟨n,env,AIY ids c l x⟩:=by
 by_cases h:x<ids.length
 ·rw[AC5 h]
  exact Head.open' (s:=⟨n,env,[⟨3,1,ids.map intC,true,true⟩,⟨201,2,(G_ ids c l x).map DRow.o,true,true⟩]⟩) 1 x 1 (ob:=⟨201,2,(G_ ids c l x).map DRow.o,true,true⟩) (row:=DRow.o (La ids c x)) rfl rfl
   (by simp only[lg,zK h,dm]) rfl rfl
 ·rw[AC6 h]
  exact⟨rfl,fun _ _ St β _ _ h=>⟨St,β,h⟩⟩
theorem AC7 (l:List Int):JD (l.map byteC)=true:=by
 exact AQi
theorem ja {ids:List Int} {c:List (List DVal)} (hn:ids.length≤64) (hc:c.length≤1048576) (h2:∀ x∈c,∀ v∈x,v.s.size≤6):fitS Aw (rowsOf ids c):=by
 refine⟨by rw[Du]; omega,fun r hr=>?_⟩
 rw[og] at hr
 obtain⟨i,_,rfl⟩:=UT.1 hr
 refine⟨by simp only[La,ae]; exact hc,fun v hv=>?_⟩
 simp only[La] at hv
 obtain⟨x,hx,rfl⟩:=UT.1 hv
 rw[UG]
 cases hq:x[i]? with
 | none=>simp[rowsOf.zeroW]
 | some v =>
  have:=h2 x hx v (bI hq)
  simp only[ak]; omega
theorem oq {b:List Int} {ty k:Int} {l:List DVal} (h:JY b ty k=some l):1≤ty∧ty≤2:=by
 unfold JY at h
 split at h
 ·assumption
 ·cases h
theorem Vo {v:DVal} (h:BO v=true):v.s.size≤6:=by
 unfold BO at h
 split at h
 ·simp only[az,nz] at h
  rw[uy h.2]
  exact au _
 ·simp only[az,bC] at h
  exact h.1.2
noncomputable def AGu (cs b ids:List Int) (x:Option (List (List DVal)×Nat)):Option (List DRow):=match x with
 | none=>none
 | some (c,_)=>if Dq cs (rowsOf ids c)=true∧Df cs (rowsOf ids c)=b then some (rowsOf ids c) else none
theorem Yd (cs b ids:List Int):AGu cs b ids none=none:=rfl
theorem ou (cs b ids:List Int) (c:List (List DVal)) (p:Nat):AGu cs b ids (some (c,p))=if Dq cs (rowsOf ids c)=true∧Df cs (rowsOf ids c)=b then some (rowsOf ids c) else none:=rfl
theorem dZ {cs b ids:List Int} {c:List (List DVal)} {p:Nat} (h:¬ (Dq cs (rowsOf ids c)=true∧Df cs (rowsOf ids c)=b)):AGu cs b ids (some (c,p))=none:=by rw[ou,bu h]
theorem zN {cs b ids:List Int} {c:List (List DVal)} {p:Nat} (h:Dq cs (rowsOf ids c)=true∧Df cs (rowsOf ids c)=b):AGu cs b ids (some (c,p))=some (rowsOf ids c):=by rw[ou,bG h]
def X8:Option (List DRow)→List Res
 | some l=>[.own 201 2 (l.map DRow.o) true,.val (.c (.v (.bool (true))))]
 | none=>[.own 201 2 [] true,.val (.c (.v (.bool (false))))]
theorem TW (cs:List Int) (b:List Int) (hb:Af b) (hl:b.length≤1048576):Ctr prog 321 [.c (.sl (cs.map intC)),.c (.sl (b.map byteC))] (X8 (CQ cs b)):=by
 rw[← zi hb]
 refine CM call321 func321 ntmps321 results321 fun hw=>?_
 simp only[go_sem]
 have hg:=l_ b 0 hb hl
 rcases h1:Fg b 0 with _ | ⟨ids,q⟩<;>rw[h1] at hg<;>simp only[dC] at hg
 ·have e:KF cs b=none:=by simp only[KF,h1]
  rw[e]
  refine AAN _ hg fun _=>?_
  simp only[go_sem,X8]
  try exact ALC
 refine AAN _ hg fun _=>?_
 obtain⟨n1,n2,n3⟩:=Vs hb h1
 simp only[go_sem]
 refine AAN _ (OZ _) fun _=>?_
 rcases hc:E8 cs with _ | _
 ·have e:KF cs b=none:=by simp only[KF,h1,hc]; rfl
  rw[e]
  simp only[go_sem,hc,X8]
  try exact ALC
 have hcs3:cs.length≤3:=by
  simp only[E8,az] at hc
  have:=hc.2
  simp[Ad] at this; omega
 have hall:KF cs b=AGu cs b ids (Gi b cs ids q):=by
  simp only[KF,h1]; exact bG hc
 rw[hall]
 simp only[go_sem,hc]
 refine AAU [32] (A:=Nat) (fun x=>[(35,.c (.v (.int .i64 (x)))),(9,.c (.ref 1))]) (fun x=>[⟨3,1,ids.map intC,true,true⟩,⟨201,2,((ids.take x).map fun n=>(⟨n,[]⟩:DRow)).map DRow.o,true,true⟩]) (fun x=>x≤ids.length) (fun x=>ids.length-x) 0 (AAQ [(0,false),(1,false)] ⟨rfl,rfl,CB _,rfl,trivial⟩ rfl) (au _) ?_
 rintro i hi
 refine AQx (fun h=>?_) fun h=>?_
 ·have hi':i<ids.length:=by simp at h; omega
  have hl2:i+1≤2147483648:=AQ2
  simp only[go_sem,AA _ hi',hi',hl2,bJ,dO hi,wrap_i64 (n:=(i:Int)+1) AQ2 AQ2]
  have hnr:D7 [[Cl.v (.int .i64 ids[i]),Cl.v (.slice none 0 0)]]=true:=rfl
  simp only[go_sem,hnr,AA _ hi',hi',hl2,bJ,dO hi,wrap_i64 (n:=(i:Int)+1) AQ2 AQ2]
  have hlen:(((ids.take i).map fun n=>(⟨n,[]⟩:DRow)).map DRow.o).length=i:=AQ5
  refine⟨i+1,Head.trans (Head.nilI' 3 i 1 66 3 _ [.v (.int .i64 ids[i]),.v (.slice none 0 0)] (zs:=((ids.take i).map fun n=>(⟨n,[]⟩:DRow)).map DRow.o ++ [[.v (.int .i64 ids[i]),.ref 4]]) rfl ?row rfl ?set) (ABP [(0,false),(3,true),(4,false)] 2 1 ⟨rfl,rfl,CB _,FH DRow.o_nr _ _ rfl,rfl,trivial⟩
   ⟨i,((ids.take i).map fun n=>(⟨n,[]⟩:DRow)).map DRow.o ++ [DRow.o ⟨ids[i],[]⟩],[.v (.int .i64 ids[i]),.ref 2],DRow.o ⟨ids[i],[]⟩,_,⟨bD 1,rfl, ?rn,AQ5,rfl⟩,
    ⟨rfl,rfl,rfl,rfl,rfl,rfl,rfl,ARF,fun l hl=>ARA⟩,⟨rfl, ?tr⟩, ?eq⟩),hi',AQ2⟩
  case row=>simp only; rw[bf AQ2,hlen]; simp
  case set=>simp only; rw[aaK _ _ AQ2,hlen]; simp
  case rn =>
   have:=FD DRow.o_nr [(0,false),(3,true),(4,false)] ((ids.take i).map fun n=>(⟨n,[]⟩:DRow)) [.v (.int .i64 ids[i]),.ref 4] (DRow.o ⟨ids[i],[]⟩)
   exact APy
  case tr =>
   unfold Am
   have:=Ae (f:=DRow.o) ((ids.take i).map fun n=>(⟨n,[]⟩:DRow)) ⟨ids[i],[]⟩
   rw[show ((ids.take i).map fun n=>(⟨n,[]⟩:DRow)).length=i from AQ5] at this
   rw[this]
   exact all2 (AU (AX _)) (AU (AO _))
  case eq =>
   exact AOE
 ·have hi':i=ids.length:=by simp at h; omega
  subst hi'
  simp only[go_sem,bP]
  have e0:(ids.map fun n=>(⟨n,[]⟩:DRow))=rowsOf ids []:=(jY ids).symm
  rw[e0]
  refine AAU [] (A:=Nat×Nat×List (List DVal)) (fun x=>[(47,.c (.v (.int .i64 (x.1)))),(7,.c (.v (.int .i64 ((x.2.1:Int)))))]) (fun x=>[⟨3,1,ids.map intC,true,true⟩,⟨201,2,(rowsOf ids x.2.2).map DRow.o,true,true⟩]) (fun x=>x.1≤cs.length∧x.2.2.length=x.1∧((∀ c∈x.2.2,c.length=ids.length)∧(∀ c∈x.2.2,∀ v∈c,v.s.size≤6))∧x.2.1≤b.length∧(ids = []→x=(0,q,[]))∧(ids≠ []→(He b ids.length (cs.drop x.1) x.2.1).map (fun y=>(x.2.2++y.1,y.2))=He b ids.length cs q)) (fun x=>cs.length-x.1) (0,q,[]) (AAQ [(0,false),(1,true)] ⟨rfl,rfl,CB _,Bc (AO _),trivial⟩ ?h0) ⟨au _,rfl,⟨AQ3,AQ3⟩,n1,fun _=>rfl,fun _=>AQ3⟩ ?_
  case h0 =>
   show (⟨125,_,[_,⟨201,2,((rowsOf ids []).map DRow.o).map (fun x=>x.map (NM [(0,false),(1,true)])),true,true⟩]⟩:MS)=_
   rw[BM (AO _)]; rfl
  rintro⟨k,p,c⟩ ⟨hk,hck,⟨hcl,hsz⟩,hpb,hemp,hne⟩
  dsimp only at hk hck hcl hsz hpb hemp hne
  refine AQx (fun h=>?_) fun h=>?_
  ·have hk':k<cs.length:=by simp at h; omega
   simp only[go_sem,AA _ hk']
   rcases hi0:((ids.length:Int)==0) with _ | _
   rotate_left
   ·have hids:ids = []:=by simpa using hi0
    have hx:=hemp hids
    simp only[bU] at hx
    obtain⟨_,hp0,hc0⟩:=hx
    have hgc:Gi b cs ids q=some (c,p):=by rw[hc0,hp0]; exact bG hids
    rw[hgc]
    simp only[go_sem,hi0]
    exact AGo
   have hids:ids≠ []:=by rintro rfl; simp at hi0
   have hn0:0<ids.length:=aaQ.2 hids
   have hne:=hne hids
   have hgc:Gi b cs ids q=He b ids.length cs q:=bu hids
   rw[hgc]
   rw[RS hk',He] at hne
   simp only[go_sem,hi0]
   have hg2:=Gt b p hb hl
   rcases h3:BU b p with _ | ⟨m,p2⟩<;>rw[h3] at hg2 hne<;>simp only[Xn] at hg2
   ·refine AAN _ hg2 fun _=>?_
    simp only[X6] at hne
    rw[← hne,Yd]
    simp only[go_sem,X8]
    try exact ALC
   refine AAN _ hg2 fun _=>?_
   dsimp only at hne
   obtain⟨_,z2,z3,z4,z5,_⟩:=Ig hb h3
   have hw1:IntKind.i64.wrap ((b.length:Int)-(p2:Int))=(b.length:Int)-(p2:Int):=wrap_i64 AQ2 AQ2
   simp only[go_sem,hw1]
   refine AAN _ (AL _ _ _) fun _=>?_
   rcases h4:Ad m 0 ((b.length:Int)-(p2:Int)) with _ | _
   ·rw[bu ARx] at hne
    simp only[X6] at hne
    rw[← hne,Yd]
    simp only[go_sem,h4,X8]
    try exact ALC
   have h4':0≤m∧m≤(b.length:Int)-(p2:Int):=ARx
   rw[bG h4'] at hne
   obtain⟨M,rfl⟩:=aU h4'.1
   rw[YM] at hne
   have q1:=Iq (k:=.i64) (n:=(p2:Int)) (m:=p2) AQ2
   have q2:=Iq (k:=.i64) (n:=(p2:Int)+(M:Int)) (m:=p2+M) AQ2
   have q5:p2≤p2+M:=AQ2
   have q6:p2+M≤b.length:=AQ2
   have q7:p2+M-p2=M:=AQ2
   have hbd:Af ((b.drop p2).take M):=Uh hb _ _
   have hdc:=uq ((b.drop p2).take M) cs[k] (ids.length:Int) hbd AQ5
   simp only[go_sem,h4,q1,q2,q5,q6,q7,BL,← cO,← cZ,wrap_i64 (n:=(p2:Int)+(M:Int)) AQ2 AQ2]
   rcases h5:JY ((b.drop p2).take M) cs[k] (ids.length:Int) with _ | l<;>rw[h5] at hdc hne<;>simp only[Dt] at hdc
   ·refine AAN _ hdc fun _=>?_
    simp only[X6] at hne
    rw[← hne,Yd]
    simp only[go_sem,X8]
    try exact ALC
   refine AAN _ hdc fun _=>?_
   dsimp only at hne
   obtain⟨y1,y2,y3⟩:=Yi hbd h5
   have hll:l.length=ids.length:=AQ2
   simp only[go_sem,Du]
   refine AAU [] (A:=Nat) (fun x=>[(89,.c (.v (.int .i64 (x))))]) (fun x=>AIY ids c l x) (fun x=>x≤ids.length) (fun x=>ids.length-x) 0 (Head.trans (AAQ [(0,false),(1,true)] ⟨rfl,rfl,CB _,Bc (AO _),trivial⟩ (by
    show (⟨125,_,[_,⟨201,2,((rowsOf ids c).map DRow.o).map (fun x=>x.map (NM [(0,false),(1,true)])),true,true⟩]⟩:MS)=_
    rw[BM (AO _),oh]; rfl)) (zM ids c l 0)) (au _) ?_
   rintro x hx
   refine AQx (fun h=>?_) fun h=>?_
   ·have hx':x<ids.length:=by simp at h; omega
    have hxl:x<l.length:=AQ2
    have hgl:(G_ ids c l x).length=ids.length:=Xi hx
    have hrow:(((G_ ids c l x).map DRow.o).set x [.v (.int .i64 (La ids c x).id),.ref 2])[x]?=some [.v (.int .i64 (La ids c x).id),.ref 2]:=by
     rw[vG]; simp[hgl,hx']
    rw[AC5 hx']
    simp only[go_sem,AA _ hxl,hgl,hx',hrow,bi]
    have hal:(La ids c x).l.length+1≤2147483648:=by simp only[La,ae]; omega
    refine AAR ?_
    simp only[go_sem,AA _ hxl,hgl,hx',hrow,bi,hal,wrap_i64 (n:=(x:Int)+1) AQ2 AQ2]
    have hnx:(G_ ids c l (x+1)).map DRow.o=((G_ ids c l x).map DRow.o).set x (DRow.o (La ids (c ++ [l]) x)):=by rw[← zL hx',yI]
    have hrs:DRow.o (La ids (c ++ [l]) x) = [.v (.int .i64 (La ids c x).id),.ow 66 3 ((La ids c x).l.map DVal.c ++ [l[x].c])]:=by rw[zI hxl,← Gw]; rfl
    have hR:((G_ ids c l (x+1)).map DRow.o).set x [.v (.int .i64 (La ids c x).id),.ow 66 3 ((La ids c x).l.map DVal.c ++ [l[x].c])]=(G_ ids c l (x+1)).map DRow.o:=by rw[hnx,dh,hrs]
    refine⟨x+1,Head.trans (ABP [(0,false),(1,true),(4,false)] 2 1 ⟨rfl,rfl,CB _, ?inn,Nz _ _,trivial⟩
     ⟨x,(G_ ids c l (x+1)).map DRow.o,[.v (.int .i64 (La ids c x).id),.ref 2],[.v (.int .i64 (La ids c x).id),.ow 66 3 ((La ids c x).l.map DVal.c ++ [l[x].c])],_,⟨bD 1,rfl, ?rn, ?len,rfl⟩,
      ⟨rfl,rfl,rfl,rfl,rfl,rfl, ?nr,ARF,fun l hl=>ARA⟩,⟨rfl, ?tr⟩, ?eq⟩) (zM ids c l (x+1)),hx',AQ2⟩
    case inn =>
     show ((((G_ ids c l x).map DRow.o).set x [.v (.int .i64 (La ids c x).id),.ref 2]).set x [.v (.int .i64 (La ids c x).id),.ref 4]).all (fun x=>x.all (inC [(0,false),(1,true),(4,false)]))=true
     exact APt
    case rn =>
     show ((((G_ ids c l x).map DRow.o).set x [.v (.int .i64 (La ids c x).id),.ref 2]).set x [.v (.int .i64 (La ids c x).id),.ref 4]).map (fun x=>x.map (NM [(0,false),(1,true),(4,false)]))=_
     rw[dh,yI,BM (AO _),hnx,dh]
     rfl
    case len=>simp only[ae]; rw[Xi AQ2]; exact hx'
    case nr=>rw[← Gw]; exact BH _
    case tr =>
     unfold Am
     rw[hR]
     exact all2 (AU (AX _)) (AU (AO _))
    case eq =>
     unfold Am
     rw[hR]
     rfl
   ·have hx':x=ids.length:=by simp at h; omega
    rw[AC6 AQ2]
    simp only[go_sem]
    subst hx'
    have hty:=oq h5
    have hta:=Dh (l:=l) AQ2
    simp only[go_sem,zJ,wrap_i64 (n:=(k:Int)+1) AQ2 AQ2,wrap_i64 (n:=(p2:Int)+(M:Int)) AQ2 AQ2]
    exact⟨(k+1,p2+M,c ++ [l]),AAQ [(0,false),(1,true)] ⟨rfl,rfl,CB _,Bc (AO _),trivial⟩ (by
     show (⟨125,_,[_,⟨201,2,((rowsOf ids (c ++ [l])).map DRow.o).map (fun x=>x.map (NM [(0,false),(1,true)])),true,true⟩]⟩:MS)=_
     rw[BM (AO _)]; rfl),⟨hk',by simp[hck],⟨fun y hy=>by
      rcases lN.1 hy with hy | hy
      ·exact hcl y hy
      ·rw[aay.1 hy]; exact hll,fun y hy v hv=>by
      rcases lN.1 hy with hy | hy
      ·exact hsz y hy v hv
      ·rw[aay.1 hy] at hv; exact Vo (hta.2.2 v hv).1⟩,q6,fun q=>absurd q hids,fun _=>by
     rw[← hne,aa6]; congr 1; funext y; simp⟩,AQ4⟩
  ·have hk':k=cs.length:=by simp at h; omega
   have hgc:Gi b cs ids q=some (c,p):=by
    exact AOI
   rw[hgc]
   simp only[go_sem]
   exact AGo
noncomputable def AIZ (cs b ids:List Int) (x:Option (List (List DVal)×Nat)):Option (List DRow):=match x with
 | none=>none
 | some (c,q)=>if q=b.length∧Dq cs (rowsOf ids c)=true then some (rowsOf ids c) else none
theorem Ye (cs b ids:List Int):AIZ cs b ids none=none:=rfl
theorem dw {cs b ids:List Int} {c:List (List DVal)} {p:Nat} (h:¬ (p=b.length∧Dq cs (rowsOf ids c)=true)):AIZ cs b ids (some (c,p))=none:=bu h
theorem zO {cs b ids:List Int} {c:List (List DVal)} {p:Nat} (h:p=b.length∧Dq cs (rowsOf ids c)=true):AIZ cs b ids (some (c,p))=some (rowsOf ids c):=bG h
def AIa (ids:List Int) (c:List (List DVal)) (l:List DVal) (x:Nat):List Ob:=if x<ids.length then
  [⟨201,2,[],true,true⟩,⟨3,1,ids.map intC,true,true⟩,⟨201,2,((G_ ids c l x).map DRow.o).set x [.v (.int .i64 (La ids c x).id),.ref 3],true,true⟩,⟨66,3,(La ids c x).l.map DVal.c,true,true⟩]
 else [⟨201,2,[],true,true⟩,⟨3,1,ids.map intC,true,true⟩,⟨201,2,(G_ ids c l x).map DRow.o,true,true⟩]
theorem AC8 {ids:List Int} {c:List (List DVal)} {l:List DVal} {x:Nat} (h:x<ids.length):AIa ids c l x = [⟨201,2,[],true,true⟩,⟨3,1,ids.map intC,true,true⟩,⟨201,2,((G_ ids c l x).map DRow.o).set x [.v (.int .i64 (La ids c x).id),.ref 3],true,true⟩,⟨66,3,(La ids c x).l.map DVal.c,true,true⟩]:=bG h
theorem AC9 {ids:List Int} {c:List (List DVal)} {l:List DVal} {x:Nat} (h:¬ x<ids.length):AIa ids c l x = [⟨201,2,[],true,true⟩,⟨3,1,ids.map intC,true,true⟩,⟨201,2,(G_ ids c l x).map DRow.o,true,true⟩]:=bu h
theorem oz {n:Nat} {env:List (Nat×AV)} (ids:List Int) (c:List (List DVal)) (l:List DVal) (x:Nat) :
  Head ⟨n,env,[⟨201,2,[],true,true⟩,⟨3,1,ids.map intC,true,true⟩,⟨201,2,(G_ ids c l x).map DRow.o,true,true⟩]⟩ ⟨n,env,AIa ids c l x⟩:=by
 by_cases h:x<ids.length
 ·rw[AC8 h]
  exact Head.open' (s:=⟨n,env,[⟨201,2,[],true,true⟩,⟨3,1,ids.map intC,true,true⟩,⟨201,2,(G_ ids c l x).map DRow.o,true,true⟩]⟩) 2 x 1 (ob:=⟨201,2,(G_ ids c l x).map DRow.o,true,true⟩) (row:=DRow.o (La ids c x)) rfl rfl
   (by simp only[lg,zK h,dm]) rfl rfl
 ·rw[AC9 h]
  exact⟨rfl,fun _ _ St β _ _ h=>⟨St,β,h⟩⟩
theorem AMk {N:Nat} {a b c:Ob} (ha:Aq N a=true) (hb:Aq N b=true) (hc:Aq N c=true) : [a,b,c].all (Aq N)=true:=by simp[ha,hb,hc]
theorem jc (cs:List Int) (b:List Int) (hb:Af b) (hl:b.length≤1048576):Ctr prog 313 [.c (.sl (cs.map intC)),.c (.sl (b.map byteC))] (X8 (CQ cs b)):=by
 refine CM call313 func313 ntmps313 results313 fun hw=>?_
 simp only[go_sem]
 have hg:=mD b 0 hb hl
 rcases h1:Fg b 0 with _ | ⟨ids,q⟩<;>rw[h1] at hg<;>simp only[dC] at hg
 ·have e:CQ cs b=none:=by simp only[CQ,h1]
  rw[e]
  refine AAN _ hg fun _=>?_
  simp only[go_sem,X8]
  try exact ALC
 refine AAN _ hg fun _=>?_
 obtain⟨n1,n2,n3⟩:=Vs hb h1
 simp only[go_sem]
 refine AAN _ (OY _) fun _=>?_
 rcases hc:E8 cs with _ | _
 ·have e:CQ cs b=none:=by simp only[CQ,h1,hc]; rfl
  rw[e]
  simp only[go_sem,hc,X8]
  try exact ALC
 rcases h12:decide ((ids.length:Int)>12) with _ | _
 rotate_left
 ·have e:CQ cs b=none:=by simp only[CQ,h1]; exact bu fun q=>by simp at h12; omega
  rw[e]
  simp only[go_sem,hc,h12,X8]
  try exact ALC
 have h12':ids.length≤12:=by simp at h12; omega
 have hcs3:cs.length≤3:=by
  simp only[E8,az] at hc
  have:=hc.2
  simp[Ad] at this; omega
 have hall:CQ cs b=AIZ cs b ids (Gi b cs ids q):=by
  simp only[CQ,h1]; exact bG ⟨hc,h12'⟩
 rw[hall]
 simp only[go_sem,hc,h12]
 refine AAU [39] (A:=Nat) (fun x=>[(11,.c (.v (.int .i64 (x)))),(10,.c (.ref 2))]) (fun x=>[⟨201,2,[],true,true⟩,⟨3,1,ids.map intC,true,true⟩,⟨201,2,((ids.take x).map fun n=>(⟨n,[]⟩:DRow)).map DRow.o,true,true⟩]) (fun x=>x≤ids.length) (fun x=>ids.length-x) 0 (AAQ [(0,false),(1,false),(2,false)] ⟨rfl,rfl,rfl,CB _,rfl,trivial⟩ rfl) (au _) ?_
 rintro i hi
 refine AQx (fun h=>?_) fun h=>?_
 ·have hi':i<ids.length:=by simp at h; omega
  have hl2:i+1≤2147483648:=AQ2
  simp only[go_sem,AA _ hi',hi',hl2,bJ,dO hi,wrap_i64 (n:=(i:Int)+1) AQ2 AQ2]
  have hnr:D7 [[Cl.v (.int .i64 ids[i]),Cl.v (.slice none 0 0)]]=true:=rfl
  simp only[go_sem,hnr,AA _ hi',hi',hl2,bJ,dO hi,wrap_i64 (n:=(i:Int)+1) AQ2 AQ2]
  have hlen:(((ids.take i).map fun n=>(⟨n,[]⟩:DRow)).map DRow.o).length=i:=AQ5
  refine⟨i+1,Head.trans (Head.nilI' 4 i 1 66 3 _ [.v (.int .i64 ids[i]),.v (.slice none 0 0)] (zs:=((ids.take i).map fun n=>(⟨n,[]⟩:DRow)).map DRow.o ++ [[.v (.int .i64 ids[i]),.ref 5]]) rfl ?row rfl ?set) (ABP [(0,false),(1,false),(4,true),(5,false)] 3 2 ⟨rfl,rfl,rfl,CB _,FH DRow.o_nr _ _ rfl,rfl,trivial⟩
   ⟨i,((ids.take i).map fun n=>(⟨n,[]⟩:DRow)).map DRow.o ++ [DRow.o ⟨ids[i],[]⟩],[.v (.int .i64 ids[i]),.ref 3],DRow.o ⟨ids[i],[]⟩,_,⟨bD 2,rfl, ?rn,AQ5,rfl⟩,
    ⟨rfl,rfl,rfl,rfl,rfl,rfl,rfl,ARF,fun l hl=>ARA⟩,⟨rfl, ?tr⟩, ?eq⟩),hi',AQ2⟩
  case row=>simp only; rw[bf AQ2,hlen]; simp
  case set=>simp only; rw[aaK _ _ AQ2,hlen]; simp
  case rn =>
   have:=FD DRow.o_nr [(0,false),(1,false),(4,true),(5,false)] ((ids.take i).map fun n=>(⟨n,[]⟩:DRow)) [.v (.int .i64 ids[i]),.ref 5] (DRow.o ⟨ids[i],[]⟩)
   exact APy
  case tr =>
   unfold Am
   have:=Ae (f:=DRow.o) ((ids.take i).map fun n=>(⟨n,[]⟩:DRow)) ⟨ids[i],[]⟩
   rw[show ((ids.take i).map fun n=>(⟨n,[]⟩:DRow)).length=i from AQ5] at this
   rw[this]
   exact AMk rfl (AU (AX _)) (AU (AO _))
  case eq =>
   exact AOE
 ·have hi':i=ids.length:=by simp at h; omega
  subst hi'
  simp only[go_sem,bP]
  have e0:(ids.map fun n=>(⟨n,[]⟩:DRow))=rowsOf ids []:=(jY ids).symm
  rw[e0]
  refine AAU [] (A:=Nat×Nat×List (List DVal)) (fun x=>[(12,.c (.v (.int .i64 (x.1)))),(8,.c (.v (.int .i64 ((x.2.1:Int)))))]) (fun x=>[⟨201,2,[],true,true⟩,⟨3,1,ids.map intC,true,true⟩,⟨201,2,(rowsOf ids x.2.2).map DRow.o,true,true⟩]) (fun x=>x.1≤cs.length∧x.2.2.length=x.1∧((∀ c∈x.2.2,c.length=ids.length)∧(∀ c∈x.2.2,∀ v∈c,v.s.size≤6))∧x.2.1≤b.length∧(ids = []→x=(0,q,[]))∧(ids≠ []→(He b ids.length (cs.drop x.1) x.2.1).map (fun y=>(x.2.2++y.1,y.2))=He b ids.length cs q)) (fun x=>cs.length-x.1) (0,q,[]) (AAQ [(0,false),(1,false),(2,true)] ⟨rfl,rfl,rfl,CB _,Bc (AO _),trivial⟩ ?h0) ⟨au _,rfl,⟨AQ3,AQ3⟩,n1,fun _=>rfl,fun _=>AQ3⟩ ?_
  case h0 =>
   show (⟨139,_,[_,_,⟨201,2,((rowsOf ids []).map DRow.o).map (fun x=>x.map (NM [(0,false),(1,false),(2,true)])),true,true⟩]⟩:MS)=_
   rw[BM (AO _)]; rfl
  rintro⟨k,p,c⟩ ⟨hk,hck,⟨hcl,hsz⟩,hpb,hemp,hne⟩
  dsimp only at hk hck hcl hsz hpb hemp hne
  simp only[go_sem]
  rcases hk1:decide ((k:Int)<(cs.length:Int)) with _ | _
  ·have hk':k=cs.length:=by simp at hk1; omega
   have hgc:Gi b cs ids q=some (c,p):=by
    exact AOI
   rw[hgc]
   rcases hpl:((p:Int) != (b.length:Int)) with _ | _
   rotate_left
   ·have hno:¬ (p=b.length∧Dq cs (rowsOf ids c)=true):=fun q=>by simp at hpl; omega
    rw[dw hno]
    simp only[go_sem,hk1,hpl,X8]
    try exact ALC
   simp only[go_sem,hk1,hpl]
   refine ABQ (args:=[.c (.sl (cs.map intC)),.c (.sl ((rowsOf ids c).map DRow.c))]) _ (by simp only[DW,DU,go_sem]) rfl (Xz cs (rowsOf ids c) (by rw[Du]; omega)) fun _=>?_
   rcases hok:Dq cs (rowsOf ids c) with _ | _
   ·have hno:¬ (p=b.length∧Dq cs (rowsOf ids c)=true):=fun q=>by rw[hok] at q; cases q.2
    rw[dw hno]
    simp only[go_sem,hok,X8]
    try exact ALC
   ·have hyes:p=b.length∧Dq cs (rowsOf ids c)=true:=⟨by simp at hpl; omega,hok⟩
    rw[zO hyes]
    simp only[go_sem,hok,X8,AO]
    try exact AHA
  have hk':k<cs.length:=ARs
  rcases hi0:decide ((ids.length:Int)>0) with _ | _
  ·have hids:ids = []:=by
    apply bY
    simp at hi0; simp[hi0]
   have hx:=hemp hids
   simp only[bU] at hx
   obtain⟨_,hp0,hc0⟩:=hx
   have hgc:Gi b cs ids q=some (c,p):=by rw[hc0,hp0]; exact bG hids
   rw[hgc]
   rcases hpl:((p:Int) != (b.length:Int)) with _ | _
   rotate_left
   ·have hno:¬ (p=b.length∧Dq cs (rowsOf ids c)=true):=fun q=>by simp at hpl; omega
    rw[dw hno]
    simp only[go_sem,hk1,hi0,hpl,X8]
    try exact ALC
   simp only[go_sem,hk1,hi0,hpl]
   refine ABQ (args:=[.c (.sl (cs.map intC)),.c (.sl ((rowsOf ids c).map DRow.c))]) _ (by simp only[DW,DU,go_sem]) rfl (Xz cs (rowsOf ids c) (by rw[Du]; omega)) fun _=>?_
   rcases hok:Dq cs (rowsOf ids c) with _ | _
   ·have hno:¬ (p=b.length∧Dq cs (rowsOf ids c)=true):=fun q=>by rw[hok] at q; cases q.2
    rw[dw hno]
    simp only[go_sem,hok,X8]
    try exact ALC
   ·have hyes:p=b.length∧Dq cs (rowsOf ids c)=true:=⟨by simp at hpl; omega,hok⟩
    rw[zO hyes]
    simp only[go_sem,hok,X8,AO]
    try exact AHA
  have hids:ids≠ []:=by rintro rfl; simp at hi0
  have hn0:0<ids.length:=aaQ.2 hids
  have hne:=hne hids
  have hgc:Gi b cs ids q=He b ids.length cs q:=bu hids
  rw[hgc]
  rw[RS hk',He] at hne
  simp only[go_sem,hk1,hi0]
  have hg2:=Gs b p hb hl
  rcases h3:BU b p with _ | ⟨m,p2⟩<;>rw[h3] at hg2 hne<;>simp only[Xn] at hg2
  ·refine AAN _ hg2 fun _=>?_
   simp only[X6] at hne
   rw[← hne,Ye]
   simp only[go_sem,X8]
   try exact ALC
  refine AAN _ hg2 fun _=>?_
  dsimp only at hne
  obtain⟨_,z2,z3,z4,z5,_⟩:=Ig hb h3
  have hw1:IntKind.i64.wrap ((b.length:Int)-(p2:Int))=(b.length:Int)-(p2:Int):=wrap_i64 AQ2 AQ2
  simp only[go_sem,hw1]
  refine AAN _ (AQ _ _ _) fun _=>?_
  rcases h4:Ad m 0 ((b.length:Int)-(p2:Int)) with _ | _
  ·rw[bu ARx] at hne
   simp only[X6] at hne
   rw[← hne,Ye]
   simp only[go_sem,h4,X8]
   try exact ALC
  have h4':0≤m∧m≤(b.length:Int)-(p2:Int):=ARx
  rw[bG h4'] at hne
  obtain⟨M,rfl⟩:=aU h4'.1
  rw[YM] at hne
  have q1:=Iq (k:=.i64) (n:=(p2:Int)) (m:=p2) AQ2
  have q2:=Iq (k:=.i64) (n:=(p2:Int)+(M:Int)) (m:=p2+M) AQ2
  have q5:p2≤p2+M:=AQ2
  have q6:p2+M≤b.length:=AQ2
  have q7:p2+M-p2=M:=AQ2
  have hbd:Af ((b.drop p2).take M):=Uh hb _ _
  have hdc:=uu ((b.drop p2).take M) cs[k] (ids.length:Int) hbd AQ5
  simp only[go_sem,h4]
  refine AAR ?_
  simp only[go_sem,AA _ hk',q1,q2,q5,q6,q7,BL,← cO,← cZ,wrap_i64 (n:=(p2:Int)+(M:Int)) AQ2 AQ2]
  rcases h5:JY ((b.drop p2).take M) cs[k] (ids.length:Int) with _ | l<;>rw[h5] at hdc hne<;>simp only[Dt] at hdc
  ·refine ABO _ hdc ?_
   simp only[go_sem,AA _ hk',q1,q2,q5,q6,q7,BL,← cO,← cZ,wrap_i64 (n:=(p2:Int)+(M:Int)) AQ2 AQ2]
   simp only[X6] at hne
   rw[← hne,Ye]
   simp only[go_sem,X8]
   try exact ALC
  refine ABO _ hdc ?_
  simp only[go_sem,AA _ hk',q1,q2,q5,q6,q7,BL,← cO,← cZ,wrap_i64 (n:=(p2:Int)+(M:Int)) AQ2 AQ2]
  dsimp only at hne
  obtain⟨y1,y2,y3⟩:=Yi hbd h5
  have hll:l.length=ids.length:=AQ2
  refine AAU [] (A:=Nat) (fun x=>[(18,.c (.v (.int .i64 (x))))]) (fun x=>AIa ids c l x) (fun x=>x≤ids.length) (fun x=>ids.length-x) 0 (Head.trans (AAQ [(0,false),(1,false),(2,true)] ⟨rfl,rfl,rfl,CB _,Bc (AO _),trivial⟩ (by
   show (⟨139,_,[_,_,⟨201,2,((rowsOf ids c).map DRow.o).map (fun x=>x.map (NM [(0,false),(1,false),(2,true)])),true,true⟩]⟩:MS)=_
   rw[BM (AO _),oh]; rfl)) (oz ids c l 0)) (au _) ?_
  rintro x hx
  rcases bZ x ids.length with hx' | hx'
  ·have hdx:decide ((x:Int)<(ids.length:Int))=true:=by simpa using hx'
   have hxl:x<l.length:=AQ2
   have hgl:(G_ ids c l x).length=ids.length:=Xi hx
   have hrow:(((G_ ids c l x).map DRow.o).set x [.v (.int .i64 (La ids c x).id),.ref 3])[x]?=some [.v (.int .i64 (La ids c x).id),.ref 3]:=by
    rw[vG]; simp[hgl,hx']
   rw[AC8 hx']
   simp only[go_sem,hdx,AA _ hxl,hgl,hx',hrow,bi]
   have hal:(La ids c x).l.length+1≤2147483648:=by simp only[La,ae]; omega
   refine AAR ?_
   simp only[go_sem,AA _ hxl,hgl,hx',hrow,bi,hal,wrap_i64 (n:=(x:Int)+1) AQ2 AQ2]
   have hnx:(G_ ids c l (x+1)).map DRow.o=((G_ ids c l x).map DRow.o).set x (DRow.o (La ids (c ++ [l]) x)):=by rw[← zL hx',yI]
   have hrs:DRow.o (La ids (c ++ [l]) x) = [.v (.int .i64 (La ids c x).id),.ow 66 3 ((La ids c x).l.map DVal.c ++ [l[x].c])]:=by rw[zI hxl,← Gw]; rfl
   have hR:((G_ ids c l (x+1)).map DRow.o).set x [.v (.int .i64 (La ids c x).id),.ow 66 3 ((La ids c x).l.map DVal.c ++ [l[x].c])]=(G_ ids c l (x+1)).map DRow.o:=by rw[hnx,dh,hrs]
   refine⟨x+1,Head.trans (ABP [(0,false),(1,false),(2,true),(5,false)] 3 2 ⟨rfl,rfl,rfl,CB _, ?inn,Nz _ _,trivial⟩
    ⟨x,(G_ ids c l (x+1)).map DRow.o,[.v (.int .i64 (La ids c x).id),.ref 3],[.v (.int .i64 (La ids c x).id),.ow 66 3 ((La ids c x).l.map DVal.c ++ [l[x].c])],_,⟨bD 2,rfl, ?rn, ?len,rfl⟩,
     ⟨rfl,rfl,rfl,rfl,rfl,rfl, ?nr,ARF,fun l hl=>ARA⟩,⟨rfl, ?tr⟩, ?eq⟩) (oz ids c l (x+1)),hx',AQ2⟩
   case inn =>
    show ((((G_ ids c l x).map DRow.o).set x [.v (.int .i64 (La ids c x).id),.ref 3]).set x [.v (.int .i64 (La ids c x).id),.ref 5]).all (fun x=>x.all (inC [(0,false),(1,false),(2,true),(5,false)]))=true
    exact APt
   case rn =>
    show ((((G_ ids c l x).map DRow.o).set x [.v (.int .i64 (La ids c x).id),.ref 3]).set x [.v (.int .i64 (La ids c x).id),.ref 5]).map (fun x=>x.map (NM [(0,false),(1,false),(2,true),(5,false)]))=_
    rw[dh,yI,BM (AO _),hnx,dh]
    rfl
   case len=>simp only[ae]; rw[Xi AQ2]; exact hx'
   case nr=>rw[← Gw]; exact BH _
   case tr =>
    unfold Am
    rw[hR]
    exact AMk rfl (AU (AX _)) (AU (AO _))
   case eq =>
    unfold Am
    rw[hR]
    rfl
  ·have hdx:decide ((x:Int)<(ids.length:Int))=false:=by simp; omega
   have hx':x=ids.length:=AQ2
   rw[AC9 AQ2]
   simp only[go_sem,hdx]
   subst hx'
   have hty:=oq h5
   have hta:=Dh (l:=l) AQ2
   simp only[go_sem,zJ,wrap_i64 (n:=(k:Int)+1) AQ2 AQ2,wrap_i64 (n:=(p2:Int)+(M:Int)) AQ2 AQ2]
   exact⟨(k+1,p2+M,c ++ [l]),AAQ [(0,false),(1,false),(2,true)] ⟨rfl,rfl,rfl,CB _,Bc (AO _),trivial⟩ (by
    show (⟨139,_,[_,_,⟨201,2,((rowsOf ids (c ++ [l])).map DRow.o).map (fun x=>x.map (NM [(0,false),(1,false),(2,true)])),true,true⟩]⟩:MS)=_
    rw[BM (AO _)]; rfl),⟨hk',by simp[hck],⟨fun y hy=>by
     rcases lN.1 hy with hy | hy
     ·exact hcl y hy
     ·rw[aay.1 hy]; exact hll,fun y hy v hv=>by
     rcases lN.1 hy with hy | hy
     ·exact hsz y hy v hv
     ·rw[aay.1 hy] at hv; exact Vo (hta.2.2 v hv).1⟩,q6,fun q=>absurd q hids,fun _=>by
    rw[← hne,aa6]; congr 1; funext y; simp⟩,AQ4⟩
theorem TY (a b c:Int):Ctr prog 94 [.c (.v (.int .i64 a)),.c (.v (.int .i64 b)),.c (.v (.int .i64 c))] [.val (.c (.v (.bool (decide (a≥b)&&decide (a≤c)))))]:=by
 refine CM call94 func94 ntmps94 results94 fun hw=>?_
 rcases h1:decide (a≥b) with _ | _<;>simp only[go_sem,h1]<;>simp only[ag,ah]
def came (n ts:Int):Bool:=decide (n≥1)&&decide (n≤ts)
theorem Q4 (n ts:Int):Ctr prog 272 [.c (.v (.int .i64 n)),.c (.v (.int .i64 ts))] [.val (.c (.v (.bool (came n ts))))]:=by
 refine CM call272 func272 ntmps272 results272 fun hw=>?_
 simp only[go_sem]
 refine AAN _ (TY n 1 ts) fun _=>?_
 simp only[go_sem,came]
theorem Q5 (n ts:Int):Ctr prog 281 [.c (.v (.int .i64 n)),.c (.v (.int .i64 ts))] [.val (.c (.v (.bool (came n ts))))]:=by
 refine CM call281 func281 ntmps281 results281 fun hw=>?_
 rcases h1:decide (n≥1) with _ | _<;>simp only[go_sem,h1]<;>simp only[came,h1,ag,ah]
def VA (w:DWorld) (n:Int):Option DBuf:=if 0≤n then w.b[n.toNat]? else none
def Q7 (b:DBuf) (r:DRef):Bool:=(b.gen==r.gen)&&((b.kind==r.kind)&&((r.kind != 1)||((b.c0.l.length:Int)==r.many)))
def there (w:DWorld) (r:DRef):Bool:=match VA w r.buf with
 | none=>false
 | some b=>Q7 b r
theorem Eb (w:DWorld) (n:Int):(∃ (k:Nat) (h:k<w.b.length),n=k∧VA w n=some w.b[k])∨((n<0∨(w.b.length:Int)≤n)∧VA w n=none):=by
 unfold VA
 by_cases h0:0≤n
 ·obtain⟨k,rfl⟩:=aU h0
  by_cases h1:k<w.b.length
  ·exact .inl ⟨k,h1,rfl,by simp[h1]⟩
  ·refine .inr ⟨.inr AQ2, ?_⟩
   simp only[h0,bH,YM]
   exact aaq AQ2
 ·exact .inr ⟨.inl AQ2,by simp[h0]⟩
theorem Md (w:DWorld) (r:DRef):Ctr prog 221 [.agg w.c,.agg r.c] [.val (.c (.v (.bool (there w r))))]:=by
 refine CM call221 func221 ntmps221 results221 fun hw=>?_
 have hlenb:w.b.length≤9223372036854775807:=by have:=hw.1.2.2.2.2.2.2.2.2.1.1; simpa [Go.maxLen] using this
 simp only[go_sem,ae]
 try refine AAO ?_
 try simp only[go_sem,ae]
 first | refine AAS _ (TY r.buf 0 _) ?_ | refine AAN _ (TY r.buf 0 _) fun _=>?_
 simp only[go_sem,ae]
 rw[wrap_i64 (n:=(w.b.length:Int)-1) AQ2 AQ2]
 rcases Eb w r.buf with ⟨k,hk,hb,hat⟩ | ⟨hb,hat⟩
 ·have e0:decide ((k:Int)≥0)=true:=by simp
  have e1:decide ((k:Int)≤(w.b.length:Int)-1)=true:=AQ5
  have hth:there w r=Q7 w.b[k] r:=by simp only[there,hat]
  rw[hth]
  rcases h1:w.b[k].gen != r.gen with _ | _<;>rcases h2:w.b[k].kind != r.kind with _ | _<;>rcases h3:r.kind != 1 with _ | _ <;>
   simp only[go_sem,ae,hb,e0,e1,AA _ hk,hk,h1,h2,h3] <;>
   simp only[bne_iff_ne,bne_eq_false_iff_eq,ne_eq,abl,beq_eq_false_iff_ne] at h1 h2 h3 <;>
   first | (simp[Q7,h1,h2,h3]; done) | (simp[Q7,h1,h2,h3]; intro hh; exact absurd (hh.trans h3.symm) h2)
 ·have e1:(decide (r.buf≥0)&&decide (r.buf≤(w.b.length:Int)-1))=false:=by
   rw[Bool.and_eq_false_iff]
   by_cases h0:0≤r.buf
   ·right; simp; omega
   ·left; simp; omega
  have hth:there w r=false:=by simp only[there,hat]
  simp only[go_sem,ae,e1,hth]
theorem Fz (w:DWorld) (r:DRef):Ctr prog 243 [.agg w.c,.agg r.c] [.val (.c (.v (.bool (there w r))))]:=by
 refine CM call243 func243 ntmps243 results243 fun hw=>?_
 rcases Eb w r.buf with ⟨k,hk,hb,hat⟩ | ⟨hb,hat⟩
 ·have e1:decide (r.buf<0)=false:=by rw[hb]; simp
  have e2:decide ((k:Int)≥w.b.length)=false:=AQ5
  have e3:decide ((k:Int)<0)=false:=AQ3
  have hth:there w r=Q7 w.b[k] r:=by simp only[there,hat]
  rw[hth]
  rcases h1:w.b[k].gen==r.gen with _ | _<;>rcases h2:w.b[k].kind==r.kind with _ | _<;>rcases h3:r.kind != 1 with _ | _ <;>
   simp only[go_sem,ae,hb,e2,e3,AA _ hk,hk,h1,h2,h3] <;>
   simp only[Q7,h1,h2,h3,ah,ag,Pv,bW]
 ·have hth:there w r=false:=by simp only[there,hat]
  rcases h0:decide (r.buf<0) with _ | _
  ·have e2:decide (r.buf≥(w.b.length:Int))=true:=by simp at h0 ⊢; omega
   simp only[go_sem,ae,h0,e2,hth]
  ·simp only[go_sem,ae,h0,hth]
def IR:DChunk:=⟨0,[]⟩
def Dw (w:DWorld) (r:DRef):DChunk×Bool:=match VA w r.buf with
 | none=>(IR,false)
 | some b=>if(r.kind==1&&Q7 b r)=true then(b.c0,true) else(IR,false)
theorem L6 (w:DWorld) (r:DRef):Ctr prog 204 [.agg w.c,.agg r.c] [.val (.agg (Dw w r).1.c),.val (.c (.v (.bool (Dw w r).2)))]:=by
 refine CM call204 func204 ntmps204 results204 fun hw=>?_
 rcases h1:r.kind != 1 with _ | _
 ·have hk1:(r.kind==1)=true:=by simpa using h1
  simp only[go_sem,h1]
  try refine AAO ?_
  try simp only[go_sem,h1]
  first | refine CY (Fz w r) ?_ | refine CW (Fz w r) fun _=>?_
  rcases h2:there w r with _ | _
  ·have hc:Dw w r=(IR,false):=by
    unfold Dw
    unfold there at h2
    split
    ·rfl
    ·rename_i b hb
     simp only[hb] at h2
     simp[h2]
   simp only[go_sem,h1,h2,hc,IR,df]
  ·obtain⟨k,hk,hb,hat⟩ | ⟨hb,hat⟩:=Eb w r.buf
   ·have hc:Dw w r=(w.b[k].c0,true):=by
     unfold Dw
     simp only[there,hat] at h2
     simp[hat,h2,hk1]
    simp only[go_sem,h1,h2,hb,AA _ hk,hk,hc]
   ·exact AQu
 ·have hk1:(r.kind==1)=false:=by simpa using h1
  have hc:Dw w r=(IR,false):=by
   unfold Dw
   split
   ·rfl
   ·simp[hk1]
  simp only[go_sem,h1,hc,IR,df]
  try refine AAO ?_
  try simp only[go_sem,h1,hc,IR,df]
noncomputable def Ec (w:DWorld) (r:DRef):List DRow:=match VA w r.buf with
 | none=>[]
 | some b=>(CQ w.c0.cols b.g).getD []
theorem MX {l:List Int} (h:oI (l.map byteC)):Af l:=fun n hn=>by
 have h1:=dQ h _ (UT.2 ⟨n,hn,rfl⟩)
 have h2:Rz (.int .u8 n)=true:=h1.1
 simp[Rz,Lit.wf,isByte,IntKind.min,IntKind.max,IntKind.bits,IntKind.signed] at h2 ⊢
 omega
theorem Kr:∀ (a b:List Cl),YR (a++b)→YR a∧YR b
 | [],b,h=>⟨trivial,h⟩
 | c::a,b,h=>⟨⟨h.1,(Kr a b h.2).1⟩,(Kr a b h.2).2⟩
theorem UW {w:DWorld} {k:Nat} (h:YR w.c) (hk:k<w.b.length):Af w.b[k].g:=by
 rw[DWorld.c_eq] at h
 have h1:=(Kr _ _ (Kr _ _ (Kr _ _ (Kr _ _ (Kr _ _ (Kr _ _ h).2).2).2).2).2).1.1
 simp only[yP] at h1
 have h2:=dQ h1.2 _ (UT.2 ⟨w.b[k],aj hk,rfl⟩)
 rw[DBuf.c_eq] at h2
 have h3:=(Kr _ _ (Kr _ _ (Kr _ _ h2).2).2).2.1
 simp only[yP] at h3
 exact MX h3.2
theorem Q8 {w:DWorld} (hf:AZ w) {k:Nat} (hk:k<w.b.length):E5 w.b[k].c0∧w.b[k].g.length≤1048576:=by
 rw[Ai] at hf
 have:=hf.2.2.1.2 _ (aj hk)
 rw[JL] at this
 exact this
theorem AC_ (x:Option (List DRow)):(X8 x).map XG = [.val (.c (.sl ((x.getD []).map DRow.c))),.val (.c (.v (.bool (x.isSome))))]:=by
 cases x with
 | none=>rfl
 | some l =>
  simp only[X8,TA,df,XG,DW]
  rfl
theorem jd (cs:List Int) (b:List Int) (hb:Af b) (hl:b.length≤1048576):Ctr prog 313 [.c (.sl (cs.map intC)),.c (.sl (b.map byteC))] [.val (.c (.sl (((CQ cs b).getD []).map DRow.c))),.val (.c (.v (.bool ((CQ cs b).isSome))))]:=by
 rw[← AC_]; exact(jc cs b hb hl).frz
theorem Vp (cs:List Int) (b:List Int) (hb:Af b) (hl:b.length≤1048576):Ctr prog 321 [.c (.sl (cs.map intC)),.c (.sl (b.map byteC))] [.val (.c (.sl (((CQ cs b).getD []).map DRow.c))),.val (.c (.v (.bool ((CQ cs b).isSome))))]:=by
 rw[← AC_]; exact(TW cs b hb hl).frz
theorem OG (w:DWorld) (r:DRef) {k:Nat} (hf:AZ w) (hk:k<w.b.length) (hb:r.buf=(k:Int)):Ctr prog 222 [.agg w.c,.agg r.c] [.val (.c (.sl ((Ec w r).map DRow.c)))]:=by
 refine CM call222 func222 ntmps222 results222 fun hw=>?_
 have hbo:=UW hw.1 hk
 have hg:Ec w r=(CQ w.c0.cols w.b[k].g).getD []:=by simp only[Ec,VA,hb]; simp[hk]
 simp only[go_sem,hb,AA _ hk,hk]
 refine AAO ?_
 simp only[go_sem,hb,AA _ hk,hk]
 refine AAS _ (jd w.c0.cols w.b[k].g hbo (Q8 hf hk).2) ?_
 simp only[go_sem,hg]
theorem NQ (w:DWorld) (r:DRef) (hf:AZ w):Ctr prog 244 [.agg w.c,.agg r.c] [.val (.c (.sl ((if(r.kind==2&&there w r)=true then Ec w r else []).map DRow.c)))]:=by
 refine CM call244 func244 ntmps244 results244 fun hw=>?_
 rcases h1:r.kind != 2 with _ | _
 ·have hk1:(r.kind==2)=true:=by simpa using h1
  simp only[go_sem,h1,hk1,ah]
  try refine AAO ?_
  try simp only[go_sem,h1]
  first | refine CY (Fz w r) ?_ | refine CW (Fz w r) fun _=>?_
  rcases h2:there w r with _ | _
  ·simp only[go_sem,h1,h2]
  ·obtain⟨k,hk,hb,hat⟩ | ⟨hb,hat⟩:=Eb w r.buf
   ·have hbo:=UW hw.1 hk
    have hg:Ec w r=(CQ w.c0.cols w.b[k].g).getD []:=by simp only[Ec,hat]
    simp only[go_sem,h1,h2,hb,AA _ hk,hk]
    try refine AAO ?_
    try simp only[go_sem,h1,h2,hb,AA _ hk,hk]
    first | refine AAS _ (Vp w.c0.cols w.b[k].g hbo (Q8 hf hk).2) ?_ | refine AAN _ (Vp w.c0.cols w.b[k].g hbo (Q8 hf hk).2) fun _=>?_
    simp only[go_sem,hg]
   ·exact AQu
 ·have hk1:(r.kind==2)=false:=by simpa using h1
  simp only[go_sem,h1,hk1,ag]
  try refine AAO ?_
  try simp only[go_sem,h1,hk1]
  trace_state
end Go.Proofs.YthmifbbmgnhddaaGreat
