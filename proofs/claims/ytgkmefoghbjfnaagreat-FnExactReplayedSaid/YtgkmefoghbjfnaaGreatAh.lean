/- A part. -/
import Derived.Test.YtgkmefoghbjfnaaGreatAb
set_option linter.unusedSimpArgs false
set_option linter.unusedVariables false
set_option maxHeartbeats 2000000
set_option maxRecDepth 10000
open Go.Proofs.Tryz
namespace Go.Proofs.YtgkmefoghbjfnaaGreat
open Go.Vm
mutual
def holds:DPred→List DVal→Bool
 | .mk kind col op v ps,l=>if(kind==1)=true then true else if(kind==2)=true then(if h:0≤col∧col.toNat<l.length then holds1 op (l[col.toNat]'h.2) v else false) else if(kind==3)=true then Eu ps l else if(kind==4)=true then Ew ps l else if(kind==5)=true then NF ps l else false
def Eu:List DPred→List DVal→Bool
 | [],_=>true
 | p::ps,l=>holds p l&&Eu ps l
def Ew:List DPred→List DVal→Bool
 | [],_=>false
 | p::ps,l=>holds p l||Ew ps l
def NF:List DPred→List DVal→Bool
 | [],_=>true
 | p::_,l=>!holds p l
end
theorem Vk (p:DPred) (l:List DVal):holds p l=if(p.kind==1)=true then true else if(p.kind==2)=true then(if h:0≤p.col∧p.col.toNat<l.length then holds1 p.op (l[p.col.toNat]'h.2) p.v else false) else if(p.kind==3)=true then Eu p.l l else if(p.kind==4)=true then Ew p.l l else if(p.kind==5)=true then NF p.l l else false:=by
 cases p
 rw[holds]
 rfl
theorem LX (ps:List DPred) (l:List DVal) {k:Nat} (h:k<ps.length):Eu (ps.drop k) l=(holds ps[k] l&&Eu (ps.drop (k+1)) l):=by
 rw[aF h,Eu]
theorem NG (l:List DVal):∀ (ps:List DPred) (h:0<ps.length),NF ps l = !holds ps[0] l
 | _::_,_=>by rw[NF]; rfl
theorem LY (ps:List DPred) (l:List DVal) {k:Nat} (h:k<ps.length):Ew (ps.drop k) l=(holds ps[k] l||Ew (ps.drop (k+1)) l):=by
 rw[aF h,Ew]
theorem Zy (p:DPred) (l:List DVal) (hf:BF p) (hl:l.length≤1048576) (hx:∀ x∈p.l,Ctr prog 181 [.agg x.c,.c (.sl (l.map DVal.c))] [.val (.c (.v (.bool (holds x l))))]):Ctr prog 181 [.agg p.c,.c (.sl (l.map DVal.c))] [.val (.c (.v (.bool (holds p l))))]:=by
 refine CM call181 func181 ntmps181 results181 fun hw=>?_
 have hpl:p.l.length≤1048576:=by rw[Bi] at hf; exact hf.2.1
 have he:=Vk p l
 rcases h1:p.kind==1 with _ | _
 rotate_left
 ·rw[ED h1] at he
  simp only[go_sem,h1,he]
 rw[Eh (by rw[h1]; decide)] at he
 rcases h2:p.kind==2 with _ | _
 rotate_left
 ·rw[ED h2] at he
  simp only[go_sem,ae,h1,h2]
  by_cases hn:0≤p.col∧p.col.toNat<l.length
  ·rw[dif_pos hn] at he
   obtain⟨m,hm⟩:=sQ hn.1
   have hml:m<l.length:=by have:=hn.2; rw[hm] at this; simpa using this
   have hlm:l[p.col.toNat]'hn.2=l[m]:=by congr 1; rw[hm]; rfl
   rw[hlm] at he
   have e1:Ce (m:Int) 0 (IntKind.i64.wrap ((l.length:Int)-1))=true:=by rw[wrap_i64 (by omega) (by omega)]; simp[Ce]; omega
   refine DrawK.mk ?_
   simp only[go_sem,ae,h1,h2,hm]
   refine CallF.mk _ (BB (m:Int) 0 _) ?_
   simp only[go_sem,ae,h1,h2,hm,e1,AA _ hml,hml]
   refine CY (UD p.op l[m] p.v) ?_
   simp only[go_sem,ae,h1,h2,hm,e1,AA _ hml,hml,he]
  ·rw[dif_neg hn] at he
   rw[he]
   have e1:Ce p.col 0 (IntKind.i64.wrap ((l.length:Int)-1))=false:=by rw[wrap_i64 (by omega) (by omega)]; simp[Ce]; intro h0; have:¬ p.col.toNat<l.length:=fun hh=>hn ⟨h0,hh⟩; omega
   refine DrawK.mk ?_
   simp only[go_sem,ae,h1,h2]
   refine CallF.mk _ (BB p.col 0 _) ?_
   simp only[go_sem,ae,h1,h2,e1]
 rw[Eh (by rw[h2]; decide)] at he
 rcases h3:p.kind==3 with _ | _
 rotate_left
 ·rw[ED h3] at he
  rw[he]
  simp only[go_sem,ae,h1,h2,h3]
  refine LoopU.mk 1 (A:=Nat) (fun k=>[(5,.c (.v (.int .i64 (k))))]) (fun _=>[⟨78,7,[[.v (.int .i64 p.kind),.v (.int .i64 p.col),.v (.int .i64 p.op),.v (.int .i64 p.v.ty),.v (.int .i64 p.v.n),.v (.string p.v.s),.sl (p.l.map DPred.c)]],true,true⟩]) (fun k=>k≤p.l.length∧Eu (p.l.drop k) l=Eu p.l l) (fun k=>p.l.length-k) 0 ⟨⟨rfl,rfl⟩,rfl,aJ _,rfl⟩ ?_
  rintro k ⟨hk,hb⟩
  simp only[go_sem,ae]
  refine cndC.mk (fun h=>?_) (fun h=>?_)
  ·have hk':k<p.l.length:=by simpa using h
   rw[LX p.l l hk'] at hb
   simp only[go_sem,ae,AA _ hk',hk']
   try refine DrawK.mk ?_
   try simp only[go_sem,ae,AA _ hk',hk']
   first | refine CY (hx p.l[k] (au hk')) ?_ | refine CW (hx p.l[k] (au hk')) fun _=>?_
   rcases hv:holds p.l[k] l with _ | _
   ·simp only[go_sem,hv]
    rw[hv,aC] at hb
    rw[← hb]
   ·simp only[go_sem,hv,wrap_i64 (n:=(k:Int)+1) (by omega) (by omega)]
    rw[hv,aU] at hb
    exact⟨k+1,⟨rfl,rfl⟩,rfl,⟨by omega,hb⟩,by omega⟩
  ·have hk':k=p.l.length:=by simp at h; omega
   subst hk'
   simp only[go_sem]
   rw[← hb,aP]; rfl
 rw[Eh (by rw[h3]; decide)] at he
 rcases h4:p.kind==4 with _ | _
 rotate_left
 ·rw[ED h4] at he
  rw[he]
  simp only[go_sem,ae,h1,h2,h3,h4]
  refine LoopU.mk 1 (A:=Nat) (fun k=>[(6,.c (.v (.int .i64 (k))))]) (fun _=>[⟨78,7,[[.v (.int .i64 p.kind),.v (.int .i64 p.col),.v (.int .i64 p.op),.v (.int .i64 p.v.ty),.v (.int .i64 p.v.n),.v (.string p.v.s),.sl (p.l.map DPred.c)]],true,true⟩]) (fun k=>k≤p.l.length∧Ew (p.l.drop k) l=Ew p.l l) (fun k=>p.l.length-k) 0 ⟨⟨rfl,rfl⟩,rfl,aJ _,rfl⟩ ?_
  rintro k ⟨hk,hb⟩
  simp only[go_sem,ae]
  refine cndC.mk (fun h=>?_) (fun h=>?_)
  ·have hk':k<p.l.length:=by simpa using h
   rw[LY p.l l hk'] at hb
   simp only[go_sem,ae,AA _ hk',hk']
   try refine DrawK.mk ?_
   try simp only[go_sem,ae,AA _ hk',hk']
   first | refine CY (hx p.l[k] (au hk')) ?_ | refine CW (hx p.l[k] (au hk')) fun _=>?_
   rcases hv:holds p.l[k] l with _ | _
   ·simp only[go_sem,hv,wrap_i64 (n:=(k:Int)+1) (by omega) (by omega)]
    rw[hv,XQ] at hb
    exact⟨k+1,⟨rfl,rfl⟩,rfl,⟨by omega,hb⟩,by omega⟩
   ·simp only[go_sem,hv]
    rw[hv,TZ] at hb
    rw[← hb]
  ·have hk':k=p.l.length:=by simp at h; omega
   subst hk'
   simp only[go_sem]
   rw[← hb,aP]; rfl
 rw[Eh (by rw[h4]; decide)] at he
 rcases h5:p.kind==5 with _ | _
 rotate_left
 ·rw[ED h5] at he
  rw[he]
  rcases h0:((p.l.length:Int)==0) with _ | _
  ·have hp0:0<p.l.length:=by simp at h0; exact oh.2 h0
   simp only[go_sem,ae,h1,h2,h3,h4,h5,h0,bD,AA _ hp0,hp0]
   try refine DrawK.mk ?_
   try simp only[go_sem,ae,h1,h2,h3,h4,h5,h0,bD,AA _ hp0,hp0]
   first | refine CY (hx p.l[0] (au hp0)) ?_ | refine CW (hx p.l[0] (au hp0)) fun _=>?_
   have:=NG l p.l hp0
   simp only[go_sem,h0,this]
  ·have hp0:p.l = []:=by simpa using h0
   simp only[go_sem,ae,h1,h2,h3,h4,h5,h0,bJ]
   rw[hp0]; rfl
 rw[Eh (by rw[h5]; decide)] at he
 simp only[go_sem,ae,h1,h2,h3,h4,h5,he]
theorem Vl (l:List DVal) (hl:l.length≤1048576):∀ (n:Nat) (p:DPred),SizeOf.sizeOf p≤n→BF p→Ctr prog 181 [.agg p.c,.c (.sl (l.map DVal.c))] [.val (.c (.v (.bool (holds p l))))]:=by
 intro n
 induction n with
 | zero=>intro p h; cases p; simp at h
 | succ n ih =>
  intro p h hf
  refine Zy p l hf hl fun x hx=>ih x ?_ ?_
  ·have h1:SizeOf.sizeOf x<SizeOf.sizeOf p.l:=eu hx
   have h2:SizeOf.sizeOf p.l<SizeOf.sizeOf p:=by cases p; simp[DPred.l]; omega
   omega
  ·rw[Bi] at hf; exact hf.2.2 x hx
theorem PQ (p:DPred) (l:List DVal) (hf:BF p) (hl:l.length≤1048576):Ctr prog 181 [.agg p.c,.c (.sl (l.map DVal.c))] [.val (.c (.v (.bool (holds p l))))]:=Vl l hl _ p (aQ _) hf
theorem Zz (p:DPred) (l:List DVal) (hf:BF p) (hl:l.length≤1048576) (hx:∀ x∈p.l,Ctr prog 173 [.agg x.c,.c (.sl (l.map DVal.c))] [.val (.c (.v (.bool (holds x l))))]):Ctr prog 173 [.agg p.c,.c (.sl (l.map DVal.c))] [.val (.c (.v (.bool (holds p l))))]:=by
 refine CM call173 func173 ntmps173 results173 fun hw=>?_
 have hpl:p.l.length≤1048576:=by rw[Bi] at hf; exact hf.2.1
 have he:=Vk p l
 rcases h1:p.kind==1 with _ | _
 rotate_left
 ·rw[ED h1] at he
  simp only[go_sem,h1,he]
 rw[Eh (by rw[h1]; decide)] at he
 rcases h2:p.kind==2 with _ | _
 rotate_left
 ·rw[ED h2] at he
  simp only[go_sem,ae,h1,h2]
  by_cases hn:0≤p.col∧p.col.toNat<l.length
  ·rw[dif_pos hn] at he
   obtain⟨m,hm⟩:=sQ hn.1
   have hml:m<l.length:=by have:=hn.2; rw[hm] at this; simpa using this
   have hlm:l[p.col.toNat]'hn.2=l[m]:=by congr 1; rw[hm]; rfl
   rw[hlm] at he
   have e1:decide ((m:Int)≥0)=true:=by simp
   have e2:decide ((m:Int)<(l.length:Int))=true:=by simp; omega
   refine DrawK.mk ?_
   simp only[go_sem,ae,h1,h2,hm,e1,e2,AA _ hml,hml]
   refine CY (UE p.op l[m] p.v) ?_
   simp only[go_sem,ae,h1,h2,hm,e1,e2,AA _ hml,hml,he]
  ·rw[dif_neg hn] at he
   rw[he]
   refine DrawK.mk ?_
   rcases e1:decide (p.col≥0) with _ | _
   ·simp only[go_sem,ae,h1,h2,e1]
   ·have e2:decide (p.col<(l.length:Int))=false:=by simp at e1 ⊢; have:¬ p.col.toNat<l.length:=fun hh=>hn ⟨e1,hh⟩; omega
    simp only[go_sem,ae,h1,h2,e1,e2]
 rw[Eh (by rw[h2]; decide)] at he
 rcases h3:p.kind==3 with _ | _
 rotate_left
 ·rw[ED h3] at he
  rw[he]
  simp only[go_sem,ae,h1,h2,h3]
  refine LoopU.mk 1 (A:=Nat) (fun k=>[(42,.c (.v (.int .i64 (k))))]) (fun _=>[⟨78,7,[[.v (.int .i64 p.kind),.v (.int .i64 p.col),.v (.int .i64 p.op),.v (.int .i64 p.v.ty),.v (.int .i64 p.v.n),.v (.string p.v.s),.sl (p.l.map DPred.c)]],true,true⟩]) (fun k=>k≤p.l.length∧Eu (p.l.drop k) l=Eu p.l l) (fun k=>p.l.length-k) 0 ⟨⟨rfl,rfl⟩,rfl,aJ _,rfl⟩ ?_
  rintro k ⟨hk,hb⟩
  simp only[go_sem,ae]
  refine cndC.mk (fun h=>?_) (fun h=>?_)
  ·have hk':k<p.l.length:=by simpa using h
   rw[LX p.l l hk'] at hb
   simp only[go_sem,ae,AA _ hk',hk']
   try refine DrawK.mk ?_
   try simp only[go_sem,ae,AA _ hk',hk']
   first | refine CY (hx p.l[k] (au hk')) ?_ | refine CW (hx p.l[k] (au hk')) fun _=>?_
   rcases hv:holds p.l[k] l with _ | _
   ·simp only[go_sem,hv]
    rw[hv,aC] at hb
    rw[← hb]
   ·simp only[go_sem,hv,wrap_i64 (n:=(k:Int)+1) (by omega) (by omega)]
    rw[hv,aU] at hb
    exact⟨k+1,⟨rfl,rfl⟩,rfl,⟨by omega,hb⟩,by omega⟩
  ·have hk':k=p.l.length:=by simp at h; omega
   subst hk'
   simp only[go_sem]
   rw[← hb,aP]; rfl
 rw[Eh (by rw[h3]; decide)] at he
 rcases h4:p.kind==4 with _ | _
 rotate_left
 ·rw[ED h4] at he
  rw[he]
  simp only[go_sem,ae,h1,h2,h3,h4]
  refine LoopU.mk 1 (A:=Nat) (fun k=>[(56,.c (.v (.int .i64 (k))))]) (fun _=>[⟨78,7,[[.v (.int .i64 p.kind),.v (.int .i64 p.col),.v (.int .i64 p.op),.v (.int .i64 p.v.ty),.v (.int .i64 p.v.n),.v (.string p.v.s),.sl (p.l.map DPred.c)]],true,true⟩]) (fun k=>k≤p.l.length∧Ew (p.l.drop k) l=Ew p.l l) (fun k=>p.l.length-k) 0 ⟨⟨rfl,rfl⟩,rfl,aJ _,rfl⟩ ?_
  rintro k ⟨hk,hb⟩
  simp only[go_sem,ae]
  refine cndC.mk (fun h=>?_) (fun h=>?_)
  ·have hk':k<p.l.length:=by simpa using h
   rw[LY p.l l hk'] at hb
   simp only[go_sem,ae,AA _ hk',hk']
   try refine DrawK.mk ?_
   try simp only[go_sem,ae,AA _ hk',hk']
   first | refine CY (hx p.l[k] (au hk')) ?_ | refine CW (hx p.l[k] (au hk')) fun _=>?_
   rcases hv:holds p.l[k] l with _ | _
   ·simp only[go_sem,hv,wrap_i64 (n:=(k:Int)+1) (by omega) (by omega)]
    rw[hv,XQ] at hb
    exact⟨k+1,⟨rfl,rfl⟩,rfl,⟨by omega,hb⟩,by omega⟩
   ·simp only[go_sem,hv]
    rw[hv,TZ] at hb
    rw[← hb]
  ·have hk':k=p.l.length:=by simp at h; omega
   subst hk'
   simp only[go_sem]
   rw[← hb,aP]; rfl
 rw[Eh (by rw[h4]; decide)] at he
 rcases h5:p.kind==5 with _ | _
 rotate_left
 ·rw[ED h5] at he
  rw[he]
  rcases h0:((p.l.length:Int)==0) with _ | _
  ·have hp0:0<p.l.length:=by simp at h0; exact oh.2 h0
   simp only[go_sem,ae,h1,h2,h3,h4,h5,h0,bD,AA _ hp0,hp0]
   try refine DrawK.mk ?_
   try simp only[go_sem,ae,h1,h2,h3,h4,h5,h0,bD,AA _ hp0,hp0]
   first | refine CY (hx p.l[0] (au hp0)) ?_ | refine CW (hx p.l[0] (au hp0)) fun _=>?_
   have:=NG l p.l hp0
   simp only[go_sem,h0,this]
  ·have hp0:p.l = []:=by simpa using h0
   simp only[go_sem,ae,h1,h2,h3,h4,h5,h0,bJ]
   rw[hp0]; rfl
 rw[Eh (by rw[h5]; decide)] at he
 simp only[go_sem,ae,h1,h2,h3,h4,h5,he]
theorem Vo (l:List DVal) (hl:l.length≤1048576):∀ (n:Nat) (p:DPred),SizeOf.sizeOf p≤n→BF p→Ctr prog 173 [.agg p.c,.c (.sl (l.map DVal.c))] [.val (.c (.v (.bool (holds p l))))]:=by
 intro n
 induction n with
 | zero=>intro p h; cases p; simp at h
 | succ n ih =>
  intro p h hf
  refine Zz p l hf hl fun x hx=>ih x ?_ ?_
  ·have h1:SizeOf.sizeOf x<SizeOf.sizeOf p.l:=eu hx
   have h2:SizeOf.sizeOf p.l<SizeOf.sizeOf p:=by cases p; simp[DPred.l]; omega
   omega
  ·rw[Bi] at hf; exact hf.2.2 x hx
theorem PR (p:DPred) (l:List DVal) (hf:BF p) (hl:l.length≤1048576):Ctr prog 173 [.agg p.c,.c (.sl (l.map DVal.c))] [.val (.c (.v (.bool (holds p l))))]:=Vo l hl _ p (aQ _) hf
def GV (q:DQuery):List Cl:=[.v (.int .i64 q.kind),.v (.int .i64 q.p.kind),.v (.int .i64 q.p.col),.v (.int .i64 q.p.op),.v (.int .i64 q.p.v.ty),.v (.int .i64 q.p.v.n),.v (.string q.p.v.s),.sl (q.p.l.map DPred.c),.v (.int .i64 q.col),.sl (q.out.map intC)]
@[go_sem] theorem oU (q:DQuery):GV q = [.v (.int .i64 q.kind),.v (.int .i64 q.p.kind),.v (.int .i64 q.p.col),.v (.int .i64 q.p.op),.v (.int .i64 q.p.v.ty),.v (.int .i64 q.p.v.n),.v (.string q.p.v.s),.sl (q.p.l.map DPred.c),.v (.int .i64 q.col),.sl (q.out.map intC)]:=rfl
def meant (q:DQuery) (l:List DRow):List DRow:=l.filter fun r=>holds q.p r.l
theorem Qe {q:DQuery} {l:List DRow} {k:Nat} (h:k<l.length):meant q (l.drop k)=(if holds q.p l[k].l=true then [l[k]] else [])++meant q (l.drop (k+1)):=by
 unfold meant
 rw[aF h,List.filter_cons]
 split<;>rfl
theorem Vp (q:DQuery) (l:List DRow) (hq:DW q) (hl:Lu Ah l):Ctr prog 150 [.agg q.c,.c (.sl (l.map DRow.c))] [.own 147 2 ((meant q l).map DRow.o) true]:=by
 rw[DX] at hq
 refine CM call150 func150 ntmps150 results150 fun hw=>?_
 simp only[go_sem,ae]
 refine LoopH.mk [8] (A:=Nat×List DRow) (fun x=>[(11,.c (.v (.int .i64 (x.1)))),(5,.c (.ref 1))]) (fun x=>[⟨80,10,[GV q],true,true⟩,⟨147,2,x.2.map DRow.o,true,true⟩]) (fun x=>x.1≤l.length∧x.2++meant q (l.drop x.1)=meant q l) (fun x=>l.length-x.1) (0,[]) (Head.sel [(0,false),(1,false)] ⟨rfl,rfl,rfl,rfl,trivial⟩ rfl) ⟨aJ _,rfl⟩ ?_
 rintro⟨k,out⟩ ⟨hk,hb⟩
 dsimp only at hk hb
 have hol:out.length≤k:=by
  have h1:meant q l=meant q (l.take k)++meant q (l.drop k):=by unfold meant; rw[← List.filter_append,bW]
  rw[List.append_cancel_right (hb.trans h1)]
  exact ZW (sS _ _) (by simp; omega)
 have hlen:=hl.1
 simp only[go_sem,ae]
 refine cndC.mk (fun h=>?_) (fun h=>?_)
 ·have hk':k<l.length:=by simpa using h
  rw[Qe hk'] at hb
  have hr:=hl.2 _ (au hk')
  rw[Bc] at hr
  have hrl:=hr.1
  have hol2:out.length+1≤1099511627776:=by omega
  simp only[go_sem,ae,AA _ hk',hk',ay]
  try refine DrawK.mk ?_
  try simp only[go_sem,ae,AA _ hk',hk',ay]
  first | refine CY (PR q.p l[k].l hq.1 hrl) ?_ | refine CW (PR q.p l[k].l hq.1 hrl) fun _=>?_
  rcases hc:holds q.p l[k].l with _ | _
  ·rw[Eh (by simp[hc]),bP] at hb
   simp only[go_sem,ae,AA _ hk',hk',hc,ay,wrap_i64 (n:=(k:Int)+1) (by omega) (by omega)]
   exact⟨(k+1,out),Head.sel [(0,false),(1,true)] ⟨rfl,rfl,rfl,Fb (AL _),trivial⟩ (by
    show (⟨27,_,[_,⟨147,2,(out.map DRow.o).map (fun x=>x.map (P9 [(0,false),(1,true)])),true,true⟩]⟩:MS)=_
    rw[Fa (AL out)]; rfl),⟨hk',hb⟩,by simp only; omega⟩
  ·rw[ED (by simp[hc])] at hb
   simp only[go_sem,ae,AA _ hk',hk',hc,ay,wrap_i64 (n:=(k:Int)+1) (by omega) (by omega)]
   refine CW (Dh l[k] hrl) fun _=>?_
   simp only[go_sem,aS,aZ,ae,AA _ hk',hk',hol2,Em,aN,ay,wrap_i64 (n:=(k:Int)+1) (by omega) (by omega)]
   refine⟨(k+1,out ++ [l[k]]),Head.selAbs [(0,false),(5,true),(3,false)] 2 1 ⟨rfl,rfl,rfl,IE DRow.o_nr _ out rfl,AP DVal.pure,trivial⟩ ⟨out.length,out.map DRow.o ++ [DRow.o l[k]],_,DRow.o l[k],_,⟨gW 1,rfl,IC DRow.o_nr _ out _ _,by simp,rfl⟩,
    ⟨rfl,rfl,rfl,rfl,rfl,rfl,BP _,by simp[EL],fun l hl=>by simp[EL] at hl; omega⟩,⟨rfl, ?tr⟩, ?eq⟩,⟨hk',by rw[← hb,aY]⟩,by simp only; omega⟩
   case tr=>unfold Am; rw[Bg]; exact all2 rfl (CB (AL _))
   case eq=>unfold Am; rw[Bg,Yk]; rfl
 ·have hk':k=l.length:=by simp at h; omega
  subst hk'
  rw[aP] at hb
  have:out=meant q l:=by simpa [meant] using hb
  subst this
  simp only[go_sem,AL]
  try simp
theorem Vq (q:DQuery) (l:List DRow) (hq:DW q) (hl:Lu Ah l):Ctr prog 162 [.agg q.c,.c (.sl (l.map DRow.c))] [.own 147 2 ((meant q l).map DRow.o) true]:=by
 rw[DX] at hq
 refine CM call162 func162 ntmps162 results162 fun hw=>?_
 simp only[go_sem,ae]
 refine LoopH.mk [8] (A:=Nat×List DRow) (fun x=>[(6,.c (.v (.int .i64 (x.1)))),(5,.c (.ref 1))]) (fun x=>[⟨80,10,[GV q],true,true⟩,⟨147,2,x.2.map DRow.o,true,true⟩]) (fun x=>x.1≤l.length∧x.2++meant q (l.drop x.1)=meant q l) (fun x=>l.length-x.1) (0,[]) (Head.sel [(0,false),(1,false)] ⟨rfl,rfl,rfl,rfl,trivial⟩ rfl) ⟨aJ _,rfl⟩ ?_
 rintro⟨k,out⟩ ⟨hk,hb⟩
 dsimp only at hk hb
 have hol:out.length≤k:=by
  have h1:meant q l=meant q (l.take k)++meant q (l.drop k):=by unfold meant; rw[← List.filter_append,bW]
  rw[List.append_cancel_right (hb.trans h1)]
  exact ZW (sS _ _) (by simp; omega)
 have hlen:=hl.1
 simp only[go_sem,ae]
 refine cndC.mk (fun h=>?_) (fun h=>?_)
 ·have hk':k<l.length:=by simpa using h
  rw[Qe hk'] at hb
  have hr:=hl.2 _ (au hk')
  rw[Bc] at hr
  have hrl:=hr.1
  have hol2:out.length+1≤1099511627776:=by omega
  simp only[go_sem,ae,AA _ hk',hk',ay]
  try refine DrawK.mk ?_
  try simp only[go_sem,ae,AA _ hk',hk',ay]
  first | refine CY (PQ q.p l[k].l hq.1 hrl) ?_ | refine CW (PQ q.p l[k].l hq.1 hrl) fun _=>?_
  rcases hc:holds q.p l[k].l with _ | _
  ·rw[Eh (by simp[hc]),bP] at hb
   simp only[go_sem,ae,AA _ hk',hk',hc,ay,wrap_i64 (n:=(k:Int)+1) (by omega) (by omega)]
   exact⟨(k+1,out),Head.sel [(0,false),(1,true)] ⟨rfl,rfl,rfl,Fb (AL _),trivial⟩ (by
    show (⟨33,_,[_,⟨147,2,(out.map DRow.o).map (fun x=>x.map (P9 [(0,false),(1,true)])),true,true⟩]⟩:MS)=_
    rw[Fa (AL out)]; rfl),⟨hk',hb⟩,by simp only; omega⟩
  ·rw[ED (by simp[hc])] at hb
   simp only[go_sem,ae,AA _ hk',hk',hc,ay,wrap_i64 (n:=(k:Int)+1) (by omega) (by omega)]
   refine CW (EQ l[k] hrl) fun _=>?_
   simp only[go_sem,aS,aZ,ae,AA _ hk',hk',hol2,Em,aN,ay,wrap_i64 (n:=(k:Int)+1) (by omega) (by omega)]
   refine⟨(k+1,out ++ [l[k]]),Head.selAbs [(0,false),(5,true),(2,false)] 2 1 ⟨rfl,rfl,rfl,IE DRow.o_nr _ out rfl,AP DVal.pure,trivial⟩ ⟨out.length,out.map DRow.o ++ [DRow.o l[k]],_,DRow.o l[k],_,⟨gW 1,rfl,IC DRow.o_nr _ out _ _,by simp,rfl⟩,
    ⟨rfl,rfl,rfl,rfl,rfl,rfl,BP _,by simp[EL],fun l hl=>by simp[EL] at hl; omega⟩,⟨rfl, ?tr⟩, ?eq⟩,⟨hk',by rw[← hb,aY]⟩,by simp only; omega⟩
   case tr=>unfold Am; rw[Bg]; exact all2 rfl (CB (AL _))
   case eq=>unfold Am; rw[Bg,Yk]; rfl
 ·have hk':k=l.length:=by simp at h; omega
  subst hk'
  rw[aP] at hb
  have:out=meant q l:=by simpa [meant] using hb
  subst this
  simp only[go_sem,AL]
  try simp
end Go.Proofs.YtgkmefoghbjfnaaGreat
