/- A part. -/
import Derived.Test.YthmifbbmgnhddaaGreatDk
import Derived.Test.YthmifbbmgnhddaaGreatCs
import Derived.Test.YthmifbbmgnhddaaGreatAf
import Derived.Test.YthmifbbmgnhddaaGreatXb
set_option linter.unusedSimpArgs false
set_option linter.unusedVariables false
set_option maxHeartbeats 2000000
set_option maxRecDepth 10000
open Go.Proofs.Tryz
namespace Go.Proofs.YthmifbbmgnhddaaGreat
open Go.Vm
mutual
def holds:DPred→List DVal→Bool
 | .mk kind col op v ps,l=>if(kind==1)=true then true else if(kind==2)=true then(if h:0≤col∧col.toNat<l.length then holds1 op (l[col.toNat]'h.2) v else false) else if(kind==3)=true then Jb ps l else if(kind==4)=true then Jc ps l else if(kind==5)=true then V5 ps l else false
def Jb:List DPred→List DVal→Bool
 | [],_=>true
 | p::ps,l=>holds p l&&Jb ps l
def Jc:List DPred→List DVal→Bool
 | [],_=>false
 | p::ps,l=>holds p l||Jc ps l
def V5:List DPred→List DVal→Bool
 | [],_=>true
 | p::_,l=>!holds p l
end
theorem vM (p:DPred) (l:List DVal):holds p l=if(p.kind==1)=true then true else if(p.kind==2)=true then(if h:0≤p.col∧p.col.toNat<l.length then holds1 p.op (l[p.col.toNat]'h.2) p.v else false) else if(p.kind==3)=true then Jb p.l l else if(p.kind==4)=true then Jc p.l l else if(p.kind==5)=true then V5 p.l l else false:=by
 cases p
 rw[holds]
 rfl
theorem Uo (ps:List DPred) (l:List DVal) {k:Nat} (h:k<ps.length):Jb (ps.drop k) l=(holds ps[k] l&&Jb (ps.drop (k+1)) l):=by
 rw[aA h,Jb]
theorem V6 (l:List DVal):∀ (ps:List DPred) (h:0<ps.length),V5 ps l = !holds ps[0] l
 | _::_,_=>by rw[V5]; rfl
theorem Ur (ps:List DPred) (l:List DVal) {k:Nat} (h:k<ps.length):Jc (ps.drop k) l=(holds ps[k] l||Jc (ps.drop (k+1)) l):=by
 rw[aA h,Jc]
theorem ADV (p:DPred) (l:List DVal) (hf:Ap p) (hl:l.length≤1048576) (hx:∀ x∈p.l,Ctr prog 426 [.agg x.c,.c (.sl (l.map DVal.c))] [.val (.c (.v (.bool (holds x l))))]):Ctr prog 426 [.agg p.c,.c (.sl (l.map DVal.c))] [.val (.c (.v (.bool (holds p l))))]:=by
 refine CM call426 func426 ntmps426 results426 fun hw=>?_
 have hpl:p.l.length≤1048576:=by rw[BG] at hf; exact hf.2.1
 have he:=vM p l
 rcases h1:p.kind==1 with _ | _
 rotate_left
 ·rw[bG h1] at he
  simp only[go_sem,h1,he]
 rw[bu AQ6] at he
 rcases h2:p.kind==2 with _ | _
 rotate_left
 ·rw[bG h2] at he
  simp only[go_sem,ae,h1,h2]
  by_cases hn:0≤p.col∧p.col.toNat<l.length
  ·rw[dif_pos hn] at he
   obtain⟨m,hm⟩:=aU hn.1
   have hml:m<l.length:=by have:=hn.2; rw[hm] at this; simpa using this
   have hlm:l[p.col.toNat]'hn.2=l[m]:=by congr 1; rw[hm]; rfl
   rw[hlm] at he
   have e1:Ad (m:Int) 0 (IntKind.i64.wrap ((l.length:Int)-1))=true:=by rw[wrap_i64 AQ2 AQ2]; simp[Ad]; omega
   refine AAO ?_
   simp only[go_sem,ae,h1,h2,hm]
   refine AAS _ (AQ (m:Int) 0 _) ?_
   simp only[go_sem,ae,h1,h2,hm,e1,AA _ hml,hml]
   refine CY (qN p.op l[m] p.v) ?_
   simp only[go_sem,ae,h1,h2,hm,e1,AA _ hml,hml,he]
  ·rw[dif_neg hn] at he
   rw[he]
   have e1:Ad p.col 0 (IntKind.i64.wrap ((l.length:Int)-1))=false:=by rw[wrap_i64 AQ2 AQ2]; simp[Ad]; intro h0; have:¬ p.col.toNat<l.length:=fun hh=>hn ⟨h0,hh⟩; omega
   refine AAO ?_
   simp only[go_sem,ae,h1,h2]
   refine AAS _ (AQ p.col 0 _) ?_
   simp only[go_sem,ae,h1,h2,e1]
 rw[bu AQ6] at he
 rcases h3:p.kind==3 with _ | _
 rotate_left
 ·rw[bG h3] at he
  rw[he]
  simp only[go_sem,ae,h1,h2,h3]
  refine AAT 1 (A:=Nat) (fun k=>[(5,.c (.v (.int .i64 (k))))]) (fun _=>[⟨69,7,[[.v (.int .i64 p.kind),.v (.int .i64 p.col),.v (.int .i64 p.op),.v (.int .i64 p.v.ty),.v (.int .i64 p.v.n),.v (.string p.v.s),.sl (p.l.map DPred.c)]],true,true⟩]) (fun k=>k≤p.l.length∧Jb (p.l.drop k) l=Jb p.l l) (fun k=>p.l.length-k) 0 ⟨⟨rfl,rfl⟩,rfl,au _,rfl⟩ ?_
  exact AIy
 rw[bu AQ6] at he
 rcases h4:p.kind==4 with _ | _
 rotate_left
 ·rw[bG h4] at he
  rw[he]
  simp only[go_sem,ae,h1,h2,h3,h4]
  refine AAT 1 (A:=Nat) (fun k=>[(6,.c (.v (.int .i64 (k))))]) (fun _=>[⟨69,7,[[.v (.int .i64 p.kind),.v (.int .i64 p.col),.v (.int .i64 p.op),.v (.int .i64 p.v.ty),.v (.int .i64 p.v.n),.v (.string p.v.s),.sl (p.l.map DPred.c)]],true,true⟩]) (fun k=>k≤p.l.length∧Jc (p.l.drop k) l=Jc p.l l) (fun k=>p.l.length-k) 0 ⟨⟨rfl,rfl⟩,rfl,au _,rfl⟩ ?_
  exact AIz
 exact AIx
theorem vN (l:List DVal) (hl:l.length≤1048576):∀ (n:Nat) (p:DPred),SizeOf.sizeOf p≤n→Ap p→Ctr prog 426 [.agg p.c,.c (.sl (l.map DVal.c))] [.val (.c (.v (.bool (holds p l))))]:=by
 intro n
 induction n with
 | zero=>intro p h; cases p; simp at h
 | succ n ih =>
  intro p h hf
  refine ADV p l hf hl fun x hx=>ih x ?_ ?_
  ·exact ALB
  ·rw[BG] at hf; exact hf.2.2 x hx
theorem Yx (p:DPred) (l:List DVal) (hf:Ap p) (hl:l.length≤1048576):Ctr prog 426 [.agg p.c,.c (.sl (l.map DVal.c))] [.val (.c (.v (.bool (holds p l))))]:=vN l hl _ p (aI _) hf
theorem ADW (p:DPred) (l:List DVal) (hf:Ap p) (hl:l.length≤1048576) (hx:∀ x∈p.l,Ctr prog 398 [.agg x.c,.c (.sl (l.map DVal.c))] [.val (.c (.v (.bool (holds x l))))]):Ctr prog 398 [.agg p.c,.c (.sl (l.map DVal.c))] [.val (.c (.v (.bool (holds p l))))]:=by
 refine CM call398 func398 ntmps398 results398 fun hw=>?_
 have hpl:p.l.length≤1048576:=by rw[BG] at hf; exact hf.2.1
 have he:=vM p l
 rcases h1:p.kind==1 with _ | _
 rotate_left
 ·rw[bG h1] at he
  simp only[go_sem,h1,he]
 rw[bu AQ6] at he
 rcases h2:p.kind==2 with _ | _
 rotate_left
 ·rw[bG h2] at he
  simp only[go_sem,ae,h1,h2]
  by_cases hn:0≤p.col∧p.col.toNat<l.length
  ·rw[dif_pos hn] at he
   obtain⟨m,hm⟩:=aU hn.1
   have hml:m<l.length:=by have:=hn.2; rw[hm] at this; simpa using this
   have hlm:l[p.col.toNat]'hn.2=l[m]:=by congr 1; rw[hm]; rfl
   rw[hlm] at he
   have e1:decide ((m:Int)≥0)=true:=AQ3
   have e2:decide ((m:Int)<(l.length:Int))=true:=AQ5
   refine AAO ?_
   simp only[go_sem,ae,h1,h2,hm,e1,e2,AA _ hml,hml]
   refine CY (qO p.op l[m] p.v) ?_
   simp only[go_sem,ae,h1,h2,hm,e1,e2,AA _ hml,hml,he]
  ·rw[dif_neg hn] at he
   rw[he]
   refine AAO ?_
   rcases e1:decide (p.col≥0) with _ | _
   ·simp only[go_sem,ae,h1,h2,e1]
   ·have e2:decide (p.col<(l.length:Int))=false:=by simp at e1 ⊢; have:¬ p.col.toNat<l.length:=fun hh=>hn ⟨e1,hh⟩; omega
    simp only[go_sem,ae,h1,h2,e1,e2]
 rw[bu AQ6] at he
 rcases h3:p.kind==3 with _ | _
 rotate_left
 ·rw[bG h3] at he
  rw[he]
  simp only[go_sem,ae,h1,h2,h3]
  refine AAT 1 (A:=Nat) (fun k=>[(42,.c (.v (.int .i64 (k))))]) (fun _=>[⟨69,7,[[.v (.int .i64 p.kind),.v (.int .i64 p.col),.v (.int .i64 p.op),.v (.int .i64 p.v.ty),.v (.int .i64 p.v.n),.v (.string p.v.s),.sl (p.l.map DPred.c)]],true,true⟩]) (fun k=>k≤p.l.length∧Jb (p.l.drop k) l=Jb p.l l) (fun k=>p.l.length-k) 0 ⟨⟨rfl,rfl⟩,rfl,au _,rfl⟩ ?_
  exact AIy
 rw[bu AQ6] at he
 rcases h4:p.kind==4 with _ | _
 rotate_left
 ·rw[bG h4] at he
  rw[he]
  simp only[go_sem,ae,h1,h2,h3,h4]
  refine AAT 1 (A:=Nat) (fun k=>[(56,.c (.v (.int .i64 (k))))]) (fun _=>[⟨69,7,[[.v (.int .i64 p.kind),.v (.int .i64 p.col),.v (.int .i64 p.op),.v (.int .i64 p.v.ty),.v (.int .i64 p.v.n),.v (.string p.v.s),.sl (p.l.map DPred.c)]],true,true⟩]) (fun k=>k≤p.l.length∧Jc (p.l.drop k) l=Jc p.l l) (fun k=>p.l.length-k) 0 ⟨⟨rfl,rfl⟩,rfl,au _,rfl⟩ ?_
  exact AIz
 exact AIx
theorem vO (l:List DVal) (hl:l.length≤1048576):∀ (n:Nat) (p:DPred),SizeOf.sizeOf p≤n→Ap p→Ctr prog 398 [.agg p.c,.c (.sl (l.map DVal.c))] [.val (.c (.v (.bool (holds p l))))]:=by
 intro n
 induction n with
 | zero=>intro p h; cases p; simp at h
 | succ n ih =>
  intro p h hf
  refine ADW p l hf hl fun x hx=>ih x ?_ ?_
  ·exact ALB
  ·rw[BG] at hf; exact hf.2.2 x hx
theorem Yy (p:DPred) (l:List DVal) (hf:Ap p) (hl:l.length≤1048576):Ctr prog 398 [.agg p.c,.c (.sl (l.map DVal.c))] [.val (.c (.v (.bool (holds p l))))]:=vO l hl _ p (aI _) hf
def MG (q:DQuery):List Cl:=[.v (.int .i64 q.kind),.v (.int .i64 q.p.kind),.v (.int .i64 q.p.col),.v (.int .i64 q.p.op),.v (.int .i64 q.p.v.ty),.v (.int .i64 q.p.v.n),.v (.string q.p.v.s),.sl (q.p.l.map DPred.c),.v (.int .i64 q.col),.sl (q.out.map intC)]
@[go_sem] theorem AIm (q:DQuery):MG q = [.v (.int .i64 q.kind),.v (.int .i64 q.p.kind),.v (.int .i64 q.p.col),.v (.int .i64 q.p.op),.v (.int .i64 q.p.v.ty),.v (.int .i64 q.p.v.n),.v (.string q.p.v.s),.sl (q.p.l.map DPred.c),.v (.int .i64 q.col),.sl (q.out.map intC)]:=rfl
def meant (q:DQuery) (l:List DRow):List DRow:=l.filter fun r=>holds q.p r.l
theorem ed {q:DQuery} {l:List DRow} {k:Nat} (h:k<l.length):meant q (l.drop k)=(if holds q.p l[k].l=true then [l[k]] else [])++meant q (l.drop (k+1)):=by
 unfold meant
 grind [aA]
theorem vP (q:DQuery) (l:List DRow) (hq:Bl q) (hl:Pg Aw l):Ctr prog 371 [.agg q.c,.c (.sl (l.map DRow.c))] [.own 201 2 ((meant q l).map DRow.o) true]:=by
 rw[EG] at hq
 refine CM call371 func371 ntmps371 results371 fun hw=>?_
 simp only[go_sem,ae]
 refine AAU [8] (A:=Nat×List DRow) (fun x=>[(11,.c (.v (.int .i64 (x.1)))),(5,.c (.ref 1))]) (fun x=>[⟨71,10,[MG q],true,true⟩,⟨201,2,x.2.map DRow.o,true,true⟩]) (fun x=>x.1≤l.length∧x.2++meant q (l.drop x.1)=meant q l) (fun x=>l.length-x.1) (0,[]) (AAQ [(0,false),(1,false)] ⟨rfl,rfl,rfl,rfl,trivial⟩ rfl) ⟨au _,rfl⟩ ?_
 rintro⟨k,out⟩ ⟨hk,hb⟩
 dsimp only at hk hb
 have hol:out.length≤k:=by
  exact AOT
 have hlen:=hl.1
 refine AQy (fun h=>?_) fun h=>?_
 ·have hk':k<l.length:=by simpa using h
  rw[ed hk'] at hb
  have hr:=hl.2 _ (aj hk')
  rw[DN] at hr
  have hrl:=hr.1
  have hol2:out.length+1≤1099511627776:=AQ2
  simp only[go_sem,ae,AA _ hk',hk',ak]
  try refine AAO ?_
  try simp only[go_sem,ae,AA _ hk',hk',ak]
  first | refine CY (Yy q.p l[k].l hq.1 hrl) ?_ | refine CW (Yy q.p l[k].l hq.1 hrl) fun _=>?_
  rcases hc:holds q.p l[k].l with _ | _
  ·rw[bu ASS,aG] at hb
   simp only[go_sem,ae,AA _ hk',hk',hc,ak,wrap_i64 (n:=(k:Int)+1) AQ2 AQ2]
   exact⟨(k+1,out),AAQ [(0,false),(1,true)] ⟨rfl,rfl,rfl,Bc (AO _),trivial⟩ (by
    show (⟨27,_,[_,⟨201,2,(out.map DRow.o).map (fun x=>x.map (NM [(0,false),(1,true)])),true,true⟩]⟩:MS)=_
    rw[BM (AO out)]; rfl),⟨hk',hb⟩,AQ2⟩
  ·rw[bG ASS] at hb
   simp only[go_sem,ae,AA _ hk',hk',hc,ak,wrap_i64 (n:=(k:Int)+1) AQ2 AQ2]
   refine CW (Fq l[k] hrl) fun _=>?_
   simp only[go_sem,aW,bn,ae,AA _ hk',hk',hol2,GM,ay,ak,wrap_i64 (n:=(k:Int)+1) AQ2 AQ2]
   refine⟨(k+1,out ++ [l[k]]),ABP [(0,false),(5,true),(3,false)] 2 1 ⟨rfl,rfl,rfl,FH DRow.o_nr _ out rfl,AP DVal.pure,trivial⟩ ⟨out.length,out.map DRow.o ++ [DRow.o l[k]],_,DRow.o l[k],_,⟨bD 1,rfl,FD DRow.o_nr _ out _ _,AQ3,rfl⟩,
    ⟨rfl,rfl,rfl,rfl,rfl,rfl,BH _,ARF,fun l hl=>ARA⟩,⟨rfl, ?tr⟩, ?eq⟩,⟨hk',AQ6⟩,AQ4⟩
   case tr=>unfold Am; rw[Ae]; exact all2 rfl (AU (AO _))
   case eq=>unfold Am; rw[Ae,bQ]; rfl
 ·have hk':k=l.length:=by simp at h; omega
  subst hk'
  rw[aJ] at hb
  have:out=meant q l:=by simpa [meant] using hb
  subst this
  exact AOO
theorem vS (q:DQuery) (l:List DRow) (hq:Bl q) (hl:Pg Aw l):Ctr prog 394 [.agg q.c,.c (.sl (l.map DRow.c))] [.own 201 2 ((meant q l).map DRow.o) true]:=by
 rw[EG] at hq
 refine CM call394 func394 ntmps394 results394 fun hw=>?_
 simp only[go_sem,ae]
 refine AAU [8] (A:=Nat×List DRow) (fun x=>[(6,.c (.v (.int .i64 (x.1)))),(5,.c (.ref 1))]) (fun x=>[⟨71,10,[MG q],true,true⟩,⟨201,2,x.2.map DRow.o,true,true⟩]) (fun x=>x.1≤l.length∧x.2++meant q (l.drop x.1)=meant q l) (fun x=>l.length-x.1) (0,[]) (AAQ [(0,false),(1,false)] ⟨rfl,rfl,rfl,rfl,trivial⟩ rfl) ⟨au _,rfl⟩ ?_
 rintro⟨k,out⟩ ⟨hk,hb⟩
 dsimp only at hk hb
 have hol:out.length≤k:=by
  exact AOT
 have hlen:=hl.1
 refine AQy (fun h=>?_) fun h=>?_
 ·have hk':k<l.length:=by simpa using h
  rw[ed hk'] at hb
  have hr:=hl.2 _ (aj hk')
  rw[DN] at hr
  have hrl:=hr.1
  have hol2:out.length+1≤1099511627776:=AQ2
  simp only[go_sem,ae,AA _ hk',hk',ak]
  try refine AAO ?_
  try simp only[go_sem,ae,AA _ hk',hk',ak]
  first | refine CY (Yx q.p l[k].l hq.1 hrl) ?_ | refine CW (Yx q.p l[k].l hq.1 hrl) fun _=>?_
  rcases hc:holds q.p l[k].l with _ | _
  ·rw[bu ASS,aG] at hb
   simp only[go_sem,ae,AA _ hk',hk',hc,ak,wrap_i64 (n:=(k:Int)+1) AQ2 AQ2]
   exact⟨(k+1,out),AAQ [(0,false),(1,true)] ⟨rfl,rfl,rfl,Bc (AO _),trivial⟩ (by
    show (⟨33,_,[_,⟨201,2,(out.map DRow.o).map (fun x=>x.map (NM [(0,false),(1,true)])),true,true⟩]⟩:MS)=_
    rw[BM (AO out)]; rfl),⟨hk',hb⟩,AQ2⟩
  ·rw[bG ASS] at hb
   simp only[go_sem,ae,AA _ hk',hk',hc,ak,wrap_i64 (n:=(k:Int)+1) AQ2 AQ2]
   refine CW (Hz l[k] hrl) fun _=>?_
   simp only[go_sem,aW,bn,ae,AA _ hk',hk',hol2,GM,ay,ak,wrap_i64 (n:=(k:Int)+1) AQ2 AQ2]
   refine⟨(k+1,out ++ [l[k]]),ABP [(0,false),(5,true),(2,false)] 2 1 ⟨rfl,rfl,rfl,FH DRow.o_nr _ out rfl,AP DVal.pure,trivial⟩ ⟨out.length,out.map DRow.o ++ [DRow.o l[k]],_,DRow.o l[k],_,⟨bD 1,rfl,FD DRow.o_nr _ out _ _,AQ3,rfl⟩,
    ⟨rfl,rfl,rfl,rfl,rfl,rfl,BH _,ARF,fun l hl=>ARA⟩,⟨rfl, ?tr⟩, ?eq⟩,⟨hk',AQ6⟩,AQ4⟩
   case tr=>unfold Am; rw[Ae]; exact all2 rfl (AU (AO _))
   case eq=>unfold Am; rw[Ae,bQ]; rfl
 ·have hk':k=l.length:=by simp at h; omega
  subst hk'
  rw[aJ] at hb
  have:out=meant q l:=by simpa [meant] using hb
  subst this
  exact AOO
def Ul (r:DRow) (cols:List Int):List DVal:=cols.filterMap fun k=>if 0≤k then r.l[k.toNat]? else none
def QT (r:DRow) (cols:List Int):DRow:=⟨r.id,Ul r cols⟩
theorem mZ {r:DRow} {cols:List Int} {k:Nat} (h:k<cols.length):Ul r (cols.drop k)=(if h2:0≤cols[k]∧cols[k].toNat<r.l.length then [r.l[cols[k].toNat]'h2.2] else [])++Ul r (cols.drop (k+1)):=by
 unfold Ul
 grind [aA]
theorem ADX (r:DRow) (cols:List Int) (hr:r.l.length≤1048576) (hc:cols.length≤1048576):Ctr prog 396 [.agg r.c,.c (.sl (cols.map intC))] [.agg (QT r cols).o]:=by
 refine CM call396 func396 ntmps396 results396 fun hw=>?_
 simp only[go_sem,ae]
 refine AAU [9,10] (A:=Nat×List DVal) (fun x=>[(6,.c (.v (.int .i64 (x.1))))]) (fun x=>[⟨201,2,[[.v (.int .i64 r.id),.sl (r.l.map DVal.c)]],true,true⟩,⟨201,2,[SI],true,true⟩,⟨66,3,x.2.map DVal.c,true,true⟩,⟨201,2,[[.v (.int .i64 r.id),.ref 2]],true,true⟩]) (fun x=>x.1≤cols.length∧x.2++Ul r (cols.drop x.1)=Ul r cols) (fun x=>cols.length-x.1) (0,[]) (AAQ [(0,false),(1,true),(2,false),(3,true)] ⟨rfl,rfl,rfl,rfl,rfl,rfl,trivial⟩ rfl) ⟨au _,rfl⟩ ?_
 rintro⟨k,out⟩ ⟨hk,hb⟩
 dsimp only at hk hb
 have hol:out.length≤cols.length:=by
  have h1:(Ul r cols).length≤cols.length:=aaE _ _
  exact APi
 simp only[go_sem,ae,SI]
 refine AAP (fun h=>?_) (fun h=>?_)
 ·have hk':k<cols.length:=by simpa using h
  rw[mZ hk'] at hb
  simp only[go_sem,ae,AA _ hk',hk',ak]
  refine AAO ?_
  simp only[go_sem,ae,AA _ hk',hk',ak]
  refine AAS _ (AQ cols[k] 0 _) ?_
  rw[wrap_i64 (n:=(r.l.length:Int)-1) AQ2 AQ2]
  by_cases hn:0≤cols[k]∧cols[k].toNat<r.l.length
  ·rw[dif_pos hn] at hb
   obtain⟨m,hm0⟩:=aU hn.1
   have hm:m<r.l.length:=by have:=hn.2; rw[hm0] at this; simpa using this
   have hlm:r.l[cols[k].toNat]'hn.2=r.l[m]:=by congr 1; rw[hm0]; rfl
   rw[hlm] at hb
   have e1:Ad (m:Int) 0 ((r.l.length:Int)-1)=true:=by simp[Ad]; omega
   have hol2:out.length+1≤2147483648:=AQ2
   simp only[go_sem,ae,AA _ hk',AA _ hm,hk',hm,hm0,e1,hol2,ak]
   refine AAR ?_
   simp only[go_sem,aW,bn,ae,AA _ hk',AA _ hm,hk',hm,hm0,e1,hol2,ak,wrap_i64 (n:=(k:Int)+1) AQ2 AQ2]
   exact⟨(k+1,out ++ [r.l[m]]),AAQ [(0,false),(1,true),(5,false),(3,true)] ⟨rfl,rfl,rfl,rfl,by grind [ML,AP,DVal.pure],rfl,trivial⟩ (by rw[← ML]; rfl),⟨hk',by rw[← hb,aZ]⟩,AQ4⟩
  ·rw[dif_neg hn,aG] at hb
   have e1:Ad cols[k] 0 ((r.l.length:Int)-1)=false:=by simp[Ad]; intro h1; have:¬ cols[k].toNat<r.l.length:=fun hh=>hn ⟨h1,hh⟩; omega
   simp only[go_sem,ae,AA _ hk',hk',e1,wrap_i64 (n:=(k:Int)+1) AQ2 AQ2]
   exact⟨(k+1,out),AAQ [(0,false),(1,true),(2,false),(3,true)] ⟨rfl,rfl,rfl,rfl,AP DVal.pure,rfl,trivial⟩ rfl,⟨hk',hb⟩,AQ2⟩
 ·have hk':k=cols.length:=by simp at h; omega
  subst hk'
  rw[aJ] at hb
  have:out=Ul r cols:=by simpa [Ul] using hb
  subst this
  simp only[go_sem,QT,BH]
  try exact AHA
def NI (n:Int):List Cl:=[.v (.slice none 0 0),.v (.int .i64 n),.v (.bool false),.v (.int .i64 0),.v (.int .i64 0),.v (.string ByteArray.empty)]
@[go_sem] theorem AKs (n:Int):NI n = [.v (.slice none 0 0),.v (.int .i64 n),.v (.bool false),.v (.int .i64 0),.v (.int .i64 0),.v (.string ByteArray.empty)]:=rfl
def dE (l:Nat):List Cl:=[.ref l,.v (.int .i64 0),.v (.bool false),.v (.int .i64 0),.v (.int .i64 0),.v (.string ByteArray.empty)]
@[go_sem] theorem AJU (l:Nat):dE l = [.ref l,.v (.int .i64 0),.v (.bool false),.v (.int .i64 0),.v (.int .i64 0),.v (.string ByteArray.empty)]:=rfl
def AAW (l:List DVal):Int:=l.foldl (fun n v=>IntKind.i64.wrap (n+v.n)) 0
def answer (q:DQuery) (l:List DRow):DResult:=
 if(q.kind==1)=true then⟨(meant q l).map fun r=>QT r q.out,0,false,zeroV⟩ else
 if(q.kind==2)=true then⟨[],(meant q l).length,false,zeroV⟩ else
 if(q.kind==3)=true then⟨[],AAW (Dp (meant q l) q.col),false,zeroV⟩ else
 if(q.kind==4)=true then⟨[],0,decide (((Dp (meant q l) q.col).length:Int)>0),(VF (Dp (meant q l) q.col)).1⟩ else
 if(q.kind==5)=true then⟨[],0,decide (((Dp (meant q l) q.col).length:Int)>0),(VF (Dp (meant q l) q.col)).2⟩ else⟨[],0,false,zeroV⟩
def LJ (q:DQuery) (l:List DRow):Res:=if(q.kind==1)=true then .agg (answer q l).o else .val (.agg (answer q l).c)
theorem AAX (q:DQuery) (l:List DRow) : [LJ q l].map XG = [.val (.agg (answer q l).c)]:=by
 unfold LJ
 split
 ·simp only[TA,df,XG,DResult.o_er]
 ·rfl
theorem mf (q:DQuery) (l:List DRow):(meant q l).length≤l.length:=aaJ _ _
theorem mg (q:DQuery) (l:List DRow) (h:Pg Aw l):Pg Aw (meant q l):=⟨aba (mf q l) h.1,fun x hx=>h.2 x (List.mem_filter.1 hx).1⟩
theorem vT {l:List DVal} {k:Nat} (h:k<l.length) (n:Int):(l.drop k).foldl (fun n v=>IntKind.i64.wrap (n+v.n)) n=(l.drop (k+1)).foldl (fun n v=>IntKind.i64.wrap (n+v.n)) (IntKind.i64.wrap (n+l[k].n)):=by
 rw[aA h,aby]
theorem vU (l:List DRow) (k:Int):(Dp l k).length≤l.length:=aaE _ _
theorem V7 (q:DQuery) (l:List DRow) (hq:Bl q) (hl:Pg Aw l):Ctr prog 340 [.agg q.c,.c (.sl (l.map DRow.c))] [LJ q l]:=by
 have hqo:q.out.length≤1048576:=by rw[EG] at hq; exact hq.2
 refine CM call340 func340 ntmps340 results340 fun hw=>?_
 have hm:=mg q l hl
 have hvl:(Dp (meant q l) q.col).length≤1099511627776:=by have:=vU (meant q l) q.col; have:=hm.1; omega
 simp only[go_sem,ae]
 refine AAN _ (by simpa only[go_sem] using(vP q l hq hl).valO (DW _)) fun _=>?_
 simp only[go_sem,ae]
 refine CW ((WI (meant q l) q.col hm).val (AP DVal.pure)) fun _=>?_
 rcases k1:(q.kind==1) with _ | _
 ·have hr:LJ q l = .val (.agg (answer q l).c):=by simp[LJ,k1]
  rw[hr]
  rcases k2:(q.kind==2) with _ | _
  rotate_left
  ·exact APO
  rcases k3:(q.kind==3) with _ | _
  rotate_left
  ·have ha:answer q l=⟨[],AAW (Dp (meant q l) q.col),false,zeroV⟩:=by simp[answer,k1,k2,k3]
   simp only[go_sem,ae,k1,k2,k3,ha]
   refine AAT 3 (A:=Nat×Int) (fun x=>[(79,.c (.v (.int .i64 (x.1))))]) (fun x=>[⟨71,10,[MG q],true,true⟩,⟨160,6,[NI 0],true,true⟩,⟨160,6,[NI x.2],true,true⟩]) (fun x=>x.1≤(Dp (meant q l) q.col).length∧((Dp (meant q l) q.col).drop x.1).foldl (fun n v=>IntKind.i64.wrap (n+v.n)) x.2=AAW (Dp (meant q l) q.col)) (fun x=>(Dp (meant q l) q.col).length-x.1) (0,0) ⟨⟨rfl,rfl⟩,rfl,au _,rfl⟩ ?_
   rintro⟨k,n⟩ ⟨hk,hb⟩
   dsimp only at hk hb
   refine AQy (fun h=>?_) fun h=>?_
   ·have hk':k<(Dp (meant q l) q.col).length:=by simpa using h
    rw[vT hk'] at hb
    simp only[go_sem,ae,AA _ hk',hk',wrap_i64 (n:=(k:Int)+1) AQ2 AQ2]
    exact⟨(k+1,_),⟨rfl,rfl⟩,rfl,⟨AQ2,hb⟩,AQ2⟩
   ·exact AOU
  rcases k4:(q.kind==4) with _ | _
  rotate_left
  ·have ha:answer q l=⟨[],0,decide (((Dp (meant q l) q.col).length:Int)>0),(VF (Dp (meant q l) q.col)).1⟩:=by simp[answer,k1,k2,k3,k4]
   simp only[go_sem,ae,k1,k2,k3,k4,ha]
   refine CW (eY (Dp (meant q l) q.col) hvl) fun _=>?_
   simp only[go_sem,ae,k1,k2,k3,k4]
   try simp
  rcases k5:(q.kind==5) with _ | _
  rotate_left
  ·have ha:answer q l=⟨[],0,decide (((Dp (meant q l) q.col).length:Int)>0),(VF (Dp (meant q l) q.col)).2⟩:=by simp[answer,k1,k2,k3,k4,k5]
   simp only[go_sem,ae,k1,k2,k3,k4,k5,ha]
   refine CW (eY (Dp (meant q l) q.col) hvl) fun _=>?_
   simp only[go_sem,ae,k1,k2,k3,k4,k5]
   try simp
  exact APN
 ·have hr:LJ q l = .agg (answer q l).o:=by simp[LJ,k1]
  have ha:answer q l=⟨(meant q l).map fun r=>QT r q.out,0,false,zeroV⟩:=by simp[answer,k1]
  rw[hr,ha]
  simp only[go_sem,ae,k1]
  refine AAU [] (A:=Nat×List DRow) (fun x=>[(29,.c (.v (.int .i64 (x.1))))]) (fun x=>[⟨71,10,[MG q],true,true⟩,⟨160,6,[NI 0],true,true⟩,⟨160,6,[dE 3],true,true⟩,⟨201,2,x.2.map DRow.o,true,true⟩]) (fun x=>x.1≤(meant q l).length∧x.2.length=x.1∧x.2++(((meant q l).drop x.1).map fun r=>QT r q.out)=(meant q l).map fun r=>QT r q.out) (fun x=>(meant q l).length-x.1) (0,[]) (Head.trans (Head.nilR 2 0 201 2 ⟨160,6,[NI 0],true,true⟩ (NI 0) rfl rfl rfl) (AAQ [(0,false),(1,true),(2,true),(3,false)] ⟨rfl,rfl,rfl,rfl,rfl,rfl,trivial⟩ rfl)) ⟨au _,rfl,rfl⟩ ?_
  rintro⟨k,out⟩ ⟨hk,hol,hb⟩
  dsimp only at hk hol hb
  refine AQy (fun h=>?_) fun h=>?_
  ·have hk':k<(meant q l).length:=by simpa using h
   simp only[go_sem,ae,AA _ hk',hk',ak]
   refine AAU [] (A:=Nat×List DVal) (fun x=>[(39,.c (.v (.int .i64 (x.1))))]) (fun x=>[⟨71,10,[MG q],true,true⟩,⟨160,6,[NI 0],true,true⟩,⟨160,6,[dE 3],true,true⟩,⟨201,2,out.map DRow.o,true,true⟩,⟨201,2,[[.v (.int .i64 (meant q l)[k].id),.sl ((meant q l)[k].l.map DVal.c)]],true,true⟩,⟨201,2,[[.v (.int .i64 (meant q l)[k].id),.ref 6]],true,true⟩,⟨66,3,x.2.map DVal.c,true,true⟩]) (fun x=>x.1≤q.out.length∧x.2++Ul (meant q l)[k] (q.out.drop x.1)=Ul (meant q l)[k] q.out) (fun x=>q.out.length-x.1) (0,[]) (Head.trans (Head.nilR 5 1 66 3 ⟨201,2,[[.v (.int .i64 (meant q l)[k].id),.v (.slice none 0 0)]],true,true⟩ [.v (.int .i64 (meant q l)[k].id),.v (.slice none 0 0)] rfl rfl rfl) (AAQ [(0,false),(1,true),(2,true),(3,true),(4,false),(5,true),(6,false)] ⟨rfl,rfl,rfl,rfl,rfl,Bc (AO _),rfl,rfl,rfl,trivial⟩ (by
    show (⟨111,_,[_,_,_,⟨201,2,(out.map DRow.o).map (fun x=>x.map (NM [(0,false),(1,true),(2,true),(3,true),(4,false),(5,true),(6,false)])),true,true⟩,_,_,_]⟩:MS)=_
    rw[BM (AO out)]; rfl))) ⟨au _,rfl⟩ ?_
   ·rintro⟨m,ys⟩ ⟨hmk,hc⟩
    dsimp only at hmk hc
    have hyl:ys.length≤q.out.length:=by
     have h1:(Ul (meant q l)[k] q.out).length≤q.out.length:=aaE _ _
     rw[← hc] at h1
     simp at h1; omega
    simp only[go_sem,ae]
    refine AAP (fun h2=>?_) (fun h2=>?_)
    ·have hm':m<q.out.length:=by simpa using h2
     rw[mZ hm'] at hc
     simp only[go_sem,ae,AA _ hm',hm',ak]
     by_cases hn:0≤q.out[m]∧q.out[m].toNat<(meant q l)[k].l.length
     ·rw[dif_pos hn] at hc
      obtain⟨j,hj0⟩:=aU hn.1
      have hj:j<(meant q l)[k].l.length:=by have:=hn.2; rw[hj0] at this; simpa using this
      have hlj:(meant q l)[k].l[q.out[m].toNat]'hn.2=(meant q l)[k].l[j]:=by congr 1; rw[hj0]; rfl
      rw[hlj] at hc
      have e1:decide ((j:Int)≥0)=true:=AQ3
      have e2:decide ((j:Int)<((meant q l)[k].l.length:Int))=true:=AQ5
      have hyl2:ys.length+1≤2147483648:=AQ2
      simp only[go_sem,ae,AA _ hm',AA _ hj,hj,hm',hj0,e1,e2,hyl2,ak]
      refine AAR ?_
      simp only[go_sem,aW,bn,ae,AA _ hm',AA _ hj,hj,hm',hj0,e1,e2,hyl2,ak,wrap_i64 (n:=(m:Int)+1) AQ2 AQ2]
      refine⟨(m+1,ys ++ [(meant q l)[k].l[j]]),AAQ [(0,false),(1,true),(2,true),(3,true),(4,false),(5,true),(8,false)] ⟨rfl,rfl,rfl,rfl,rfl,Bc (AO _),rfl,rfl,by rw[← ML]; exact AP DVal.pure,trivial⟩ ?_,⟨hm',AQ6⟩,AQ4⟩
      rw[← ML]
      show (⟨111,_,[_,_,_,⟨201,2,(out.map DRow.o).map (fun x=>x.map (NM [(0,false),(1,true),(2,true),(3,true),(4,false),(5,true),(8,false)])),true,true⟩,_,_,_]⟩:MS)=_
      exact AQk
     ·rw[dif_neg hn,aG] at hc
      have hd:(decide (q.out[m]≥0)&&decide (q.out[m]<((meant q l)[k].l.length:Int)))=false:=by
       rcases h1:decide (q.out[m]≥0) with _ | _
       ·rfl
       ·grind
      rcases h1:decide (q.out[m]≥0) with _ | _
      ·simp only[go_sem,ae,AA _ hm',hm',h1,wrap_i64 (n:=(m:Int)+1) AQ2 AQ2]
       exact ALe
      ·have h2:decide (q.out[m]<((meant q l)[k].l.length:Int))=false:=by rw[h1,ah] at hd; exact hd
       simp only[go_sem,ae,AA _ hm',hm',h1,h2,wrap_i64 (n:=(m:Int)+1) AQ2 AQ2]
       exact ALe
    ·have hm':m=q.out.length:=by simp at h2; omega
     subst hm'
     rw[aJ] at hc
     have:ys=Ul (meant q l)[k] q.out:=by simpa [Ul] using hc
     subst this
     have hol2:out.length+1≤1099511627776:=by have:=hm.1; omega
     simp only[go_sem,aW,bn,ae,GM,hol2,ay,ak,wrap_i64 (n:=(k:Int)+1) AQ2 AQ2]
     refine⟨(k+1,out ++ [QT (meant q l)[k] q.out]),ABP [(0,false),(1,true),(2,true),(8,true),(6,false)] 4 3 ⟨rfl,rfl,rfl,rfl,rfl,FH DRow.o_nr _ out rfl,AP DVal.pure,trivial⟩ ⟨out.length,out.map DRow.o ++ [DRow.o (QT (meant q l)[k] q.out)],_,DRow.o (QT (meant q l)[k] q.out),_,⟨ARJ,rfl,FD DRow.o_nr _ out _ _,AQ3,rfl⟩,
      ⟨rfl,rfl,rfl,rfl,rfl,rfl,BH _,ARF,fun l hl=>ARA⟩,⟨rfl, ?tr⟩, ?eq⟩,⟨hk',by simp[hol],by grind [aA,TA,aZ]⟩,AQ4⟩
     case tr=>unfold Am; rw[Ae]; exact AAV rfl rfl rfl (AU (AO _))
     case eq=>unfold Am; rw[Ae,bQ]; rfl
  ·exact AON
theorem pV (q:DQuery) (l:List DRow) (hq:Bl q) (hl:Pg Aw l):Ctr prog 368 [.agg q.c,.c (.sl (l.map DRow.c))] [LJ q l]:=by
 have hqo:q.out.length≤1048576:=by rw[EG] at hq; exact hq.2
 refine CM call368 func368 ntmps368 results368 fun hw=>?_
 have hm:=mg q l hl
 have hvl:(Dp (meant q l) q.col).length≤1099511627776:=by have:=vU (meant q l) q.col; have:=hm.1; omega
 simp only[go_sem,ae]
 refine AAN _ (by simpa only[go_sem] using(vS q l hq hl).valO (DW _)) fun _=>?_
 simp only[go_sem,ae]
 refine CW ((qP (meant q l) q.col hm).val (AP DVal.pure)) fun _=>?_
 rcases k1:(q.kind==1) with _ | _
 ·have hr:LJ q l = .val (.agg (answer q l).c):=by simp[LJ,k1]
  rw[hr]
  rcases k2:(q.kind==2) with _ | _
  rotate_left
  ·exact APO
  rcases k3:(q.kind==3) with _ | _
  rotate_left
  ·have ha:answer q l=⟨[],AAW (Dp (meant q l) q.col),false,zeroV⟩:=by simp[answer,k1,k2,k3]
   simp only[go_sem,ae,k1,k2,k3,ha]
   refine AAT 3 (A:=Nat×Int) (fun x=>[(10,.c (.v (.int .i64 (x.1))))]) (fun x=>[⟨71,10,[MG q],true,true⟩,⟨160,6,[NI 0],true,true⟩,⟨160,6,[NI x.2],true,true⟩]) (fun x=>x.1≤(Dp (meant q l) q.col).length∧((Dp (meant q l) q.col).drop x.1).foldl (fun n v=>IntKind.i64.wrap (n+v.n)) x.2=AAW (Dp (meant q l) q.col)) (fun x=>(Dp (meant q l) q.col).length-x.1) (0,0) ⟨⟨rfl,rfl⟩,rfl,au _,rfl⟩ ?_
   rintro⟨k,n⟩ ⟨hk,hb⟩
   dsimp only at hk hb
   refine AQy (fun h=>?_) fun h=>?_
   ·have hk':k<(Dp (meant q l) q.col).length:=by simpa using h
    rw[vT hk'] at hb
    simp only[go_sem,ae,AA _ hk',hk',wrap_i64 (n:=(k:Int)+1) AQ2 AQ2]
    try refine AAR ?_
    try simp only[go_sem,ae,AA _ hk',hk',wrap_i64 (n:=(k:Int)+1) AQ2 AQ2]
    exact⟨(k+1,_),⟨rfl,rfl⟩,rfl,⟨AQ2,hb⟩,AQ2⟩
   ·exact AOU
  rcases k4:(q.kind==4) with _ | _
  rotate_left
  ·have ha:answer q l=⟨[],0,decide (((Dp (meant q l) q.col).length:Int)>0),(VF (Dp (meant q l) q.col)).1⟩:=by simp[answer,k1,k2,k3,k4]
   simp only[go_sem,ae,k1,k2,k3,k4,ha]
   refine CW (eX (Dp (meant q l) q.col) hvl) fun _=>?_
   simp only[go_sem,ae,k1,k2,k3,k4]
   try simp
  rcases k5:(q.kind==5) with _ | _
  rotate_left
  ·have ha:answer q l=⟨[],0,decide (((Dp (meant q l) q.col).length:Int)>0),(VF (Dp (meant q l) q.col)).2⟩:=by simp[answer,k1,k2,k3,k4,k5]
   simp only[go_sem,ae,k1,k2,k3,k4,k5,ha]
   refine CW (eX (Dp (meant q l) q.col) hvl) fun _=>?_
   simp only[go_sem,ae,k1,k2,k3,k4,k5]
   try simp
  exact APN
 ·have hr:LJ q l = .agg (answer q l).o:=by simp[LJ,k1]
  have ha:answer q l=⟨(meant q l).map fun r=>QT r q.out,0,false,zeroV⟩:=by simp[answer,k1]
  rw[hr,ha]
  simp only[go_sem,ae,k1]
  refine AAU [] (A:=Nat×List DRow) (fun x=>[(8,.c (.v (.int .i64 (x.1))))]) (fun x=>[⟨71,10,[MG q],true,true⟩,⟨160,6,[NI 0],true,true⟩,⟨160,6,[dE 3],true,true⟩,⟨201,2,x.2.map DRow.o,true,true⟩]) (fun x=>x.1≤(meant q l).length∧x.2.length=x.1∧x.2++(((meant q l).drop x.1).map fun r=>QT r q.out)=(meant q l).map fun r=>QT r q.out) (fun x=>(meant q l).length-x.1) (0,[]) (Head.trans (Head.nilR 2 0 201 2 ⟨160,6,[NI 0],true,true⟩ (NI 0) rfl rfl rfl) (AAQ [(0,false),(1,true),(2,true),(3,false)] ⟨rfl,rfl,rfl,rfl,rfl,rfl,trivial⟩ rfl)) ⟨au _,rfl,rfl⟩ ?_
  rintro⟨k,out⟩ ⟨hk,hol,hb⟩
  dsimp only at hk hol hb
  refine AQy (fun h=>?_) fun h=>?_
  ·have hk':k<(meant q l).length:=by simpa using h
   have hrl:=hm.2 _ (aj hk')
   rw[DN] at hrl
   have hol2:out.length+1≤1099511627776:=by have:=hm.1; omega
   simp only[go_sem,ae,AA _ hk',hk',ak]
   refine ACF 7 6 (by kernel_rfl) ?_
   simp only[go_sem,ae,AA _ hk',hk',ak]
   refine CZ (ADX (meant q l)[k] q.out hrl.1 hqo) ?_
   simp only[go_sem,aW,bn,ae,AA _ hk',hk',GM,BH,hol2,ay,ak,wrap_i64 (n:=(k:Int)+1) AQ2 AQ2]
   refine⟨(k+1,out ++ [QT (meant q l)[k] q.out]),ABP [(0,false),(1,true),(2,true),(7,true),(4,false)] 4 3 ⟨rfl,rfl,rfl,rfl,rfl,FH DRow.o_nr _ out rfl,AP DVal.pure,trivial⟩ ⟨out.length,out.map DRow.o ++ [DRow.o (QT (meant q l)[k] q.out)],_,DRow.o (QT (meant q l)[k] q.out),_,⟨ARJ,rfl,FD DRow.o_nr _ out _ _,AQ3,rfl⟩,
    ⟨rfl,rfl,rfl,rfl,rfl,rfl,BH _,ARF,fun l hl=>ARA⟩,⟨rfl, ?tr⟩, ?eq⟩,⟨hk',by simp[hol],by grind [aA,TA,aZ]⟩,AQ4⟩
   case tr=>unfold Am; rw[Ae]; exact AAV rfl rfl rfl (AU (AO _))
   case eq=>unfold Am; rw[Ae,bQ]; rfl
  ·exact AON
theorem AAY (l:List DRow) (ids:List Int) (hl:fitS Aw l) (hi:ids.length≤1048576):Ctr prog 338 [.c (.sl (l.map DRow.c)),.c (.sl (ids.map intC))] [.own 201 2 ((l.filter fun r=>!O4 ids r.id).map DRow.o) true]:=by
 refine CM call338 func338 ntmps338 results338 fun hw=>?_
 have hlen:=hl.1
 simp only[go_sem,ae]
 refine AAU [8] (A:=Nat×List DRow) (fun x=>[(11,.c (.v (.int .i64 (x.1)))),(5,.c (.ref 0))]) (fun x=>[⟨201,2,x.2.map DRow.o,true,true⟩]) (fun x=>x.1≤l.length∧x.2.length≤x.1∧x.2++(l.drop x.1).filter (fun r=>!O4 ids r.id)=(l.filter fun r=>!O4 ids r.id)) (fun x=>l.length-x.1) (0,[]) (AAQ [(0,false)] ⟨rfl,rfl,rfl,trivial⟩ rfl) ⟨au _,aI _,rfl⟩ ?_
 rintro⟨k,out⟩ ⟨hk,hol,hb⟩
 dsimp only at hk hol hb
 refine AQy (fun h=>?_) fun h=>?_
 ·have hk':k<l.length:=by simpa using h
  rw[aA hk',List.filter_cons] at hb
  have hr:=hl.2 _ (aj hk')
  rw[DN] at hr
  have hrl:=hr.1
  have hol2:out.length+1≤2147483648:=AQ2
  simp only[go_sem,ae,AA _ hk',hk',ak]
  refine CW (ADh ids l[k].id hi) fun _=>?_
  rcases hc:O4 ids l[k].id with _ | _
  rotate_left
  ·rw[bu ASS] at hb
   simp only[go_sem,ae,AA _ hk',hk',hc,ak,wrap_i64 (n:=(k:Int)+1) AQ2 AQ2]
   exact⟨(k+1,out),AAQ [(0,true)] ⟨rfl,rfl,Bc (AO _),trivial⟩ (by
    show (⟨27,_,[⟨201,2,(out.map DRow.o).map (fun x=>x.map (NM [(0,true)])),true,true⟩]⟩:MS)=_
    rw[BM (AO out)]; rfl),⟨hk',AQ6,hb⟩,AQ4⟩
  rw[bG ASS] at hb
  simp only[go_sem,ae,AA _ hk',hk',hc,ak]
  refine CW (Fq l[k] hrl) fun _=>?_
  simp only[go_sem,aW,bn,ae,AA _ hk',hk',hol2,GM,ay,ak,wrap_i64 (n:=(k:Int)+1) AQ2 AQ2]
  refine⟨(k+1,out ++ [l[k]]),ABP [(4,true),(2,false)] 1 0 ⟨rfl,rfl,FH DRow.o_nr _ out rfl,AP DVal.pure,trivial⟩ ⟨out.length,out.map DRow.o ++ [DRow.o l[k]],_,DRow.o l[k],_,⟨bD 0,rfl,FD DRow.o_nr _ out _ _,AQ3,rfl⟩,
   ⟨rfl,rfl,rfl,rfl,rfl,rfl,BH _,ARF,fun l hl=>AQ2⟩,⟨rfl, ?tr⟩, ?eq⟩,⟨hk',AQ5,(aZ _ _ _).trans hb⟩,AQ4⟩
  case tr=>unfold Am; rw[Ae]; exact allA (AU (AO _))
  case eq=>unfold Am; rw[Ae,bQ]; rfl
 ·have hk':k=l.length:=by simp at h; omega
  subst hk'
  rw[aJ] at hb
  have:out=(l.filter fun r=>!O4 ids r.id):=ARZ
  rw[← this]
  exact AOO
theorem AAZ (l:List DRow) (ids:List Int) (hl:fitS Aw l) (hi:ids.length≤1048576):Ctr prog 366 [.c (.sl (l.map DRow.c)),.c (.sl (ids.map intC))] [.own 201 2 ((l.filter fun r=>!O4 ids r.id).map DRow.o) true]:=by
 refine CM call366 func366 ntmps366 results366 fun hw=>?_
 have hlen:=hl.1
 simp only[go_sem,ae]
 refine AAU [8] (A:=Nat×List DRow) (fun x=>[(6,.c (.v (.int .i64 (x.1)))),(5,.c (.ref 0))]) (fun x=>[⟨201,2,x.2.map DRow.o,true,true⟩]) (fun x=>x.1≤l.length∧x.2.length≤x.1∧x.2++(l.drop x.1).filter (fun r=>!O4 ids r.id)=(l.filter fun r=>!O4 ids r.id)) (fun x=>l.length-x.1) (0,[]) (AAQ [(0,false)] ⟨rfl,rfl,rfl,trivial⟩ rfl) ⟨au _,aI _,rfl⟩ ?_
 rintro⟨k,out⟩ ⟨hk,hol,hb⟩
 dsimp only at hk hol hb
 refine AQy (fun h=>?_) fun h=>?_
 ·have hk':k<l.length:=by simpa using h
  rw[aA hk',List.filter_cons] at hb
  have hr:=hl.2 _ (aj hk')
  rw[DN] at hr
  have hrl:=hr.1
  have hol2:out.length+1≤2147483648:=AQ2
  simp only[go_sem,ae,AA _ hk',hk',ak]
  refine CW (ADi ids l[k].id hi) fun _=>?_
  rcases hc:O4 ids l[k].id with _ | _
  rotate_left
  ·rw[bu ASS] at hb
   simp only[go_sem,ae,AA _ hk',hk',hc,ak,wrap_i64 (n:=(k:Int)+1) AQ2 AQ2]
   exact⟨(k+1,out),AAQ [(0,true)] ⟨rfl,rfl,Bc (AO _),trivial⟩ (by
    show (⟨33,_,[⟨201,2,(out.map DRow.o).map (fun x=>x.map (NM [(0,true)])),true,true⟩]⟩:MS)=_
    rw[BM (AO out)]; rfl),⟨hk',AQ6,hb⟩,AQ4⟩
  rw[bG ASS] at hb
  simp only[go_sem,ae,AA _ hk',hk',hc,ak]
  refine CW (Hz l[k] hrl) fun _=>?_
  simp only[go_sem,aW,bn,ae,AA _ hk',hk',hol2,GM,ay,ak,wrap_i64 (n:=(k:Int)+1) AQ2 AQ2]
  refine⟨(k+1,out ++ [l[k]]),ABP [(4,true),(1,false)] 1 0 ⟨rfl,rfl,FH DRow.o_nr _ out rfl,AP DVal.pure,trivial⟩ ⟨out.length,out.map DRow.o ++ [DRow.o l[k]],_,DRow.o l[k],_,⟨bD 0,rfl,FD DRow.o_nr _ out _ _,AQ3,rfl⟩,
   ⟨rfl,rfl,rfl,rfl,rfl,rfl,BH _,ARF,fun l hl=>AQ2⟩,⟨rfl, ?tr⟩, ?eq⟩,⟨hk',AQ5,(aZ _ _ _).trans hb⟩,AQ4⟩
  case tr=>unfold Am; rw[Ae]; exact allA (AU (AO _))
  case eq=>unfold Am; rw[Ae,bQ]; rfl
 ·have hk':k=l.length:=by simp at h; omega
  subst hk'
  rw[aJ] at hb
  have:out=(l.filter fun r=>!O4 ids r.id):=ARZ
  rw[← this]
  exact AOO
end Go.Proofs.YthmifbbmgnhddaaGreat
