/- Walks: zones of values. -/
import Derived.Test.YthoeeoddgkjkkaaGreatAa
import Derived.Test.YthoeeoddgkjkkaaGreatAx
namespace Go.Proofs.YthoeeoddgkjkkaaGreat
set_option linter.unusedSimpArgs false
set_option linter.unusedVariables false
open Go.Vm
set_option maxHeartbeats 2000000
set_option maxRecDepth 10000
def zeroV:DVal:=⟨0,0,ByteArray.empty⟩
def Jj (z:DVal×DVal) (v:DVal):DVal×DVal:=(if Bi v z.1=true then v else z.1,if Bi z.2 v=true then v else z.2)
def Ns:List DVal→DVal×DVal
 | []=>(zeroV,zeroV)
 | v::vs=>vs.foldl Jj (v,v)
def Ql (z:DVal×DVal):List Cl:=z.1.c++z.2.c
@[go_sem] theorem AAi (z:DVal×DVal):Ql z=z.1.c++z.2.c:=rfl
theorem iJ (v:DVal):Bi v v=false:=by
 have hb:∀ l:List UInt8,Op.bytesLess l l=false:=by
  intro l
  induction l with
  | nil=>rfl
  | cons x l ih=>simp[Op.bytesLess,ih]
 simp[Bi,hb]
theorem Nu (v:DVal):Jj (v,v) v=(v,v):=by simp[Jj,iJ]
theorem YF {l:List DVal} (h:0<l.length):l.foldl Jj (l[0],l[0])=Ns l:=by
 cases l with
 | nil=>simp at h
 | cons v vs=>simp[Ns,Nu]
theorem Nv {l:List DVal} {k:Nat} (h:k<l.length) (z:DVal×DVal):(l.drop k).foldl Jj z=(l.drop (k+1)).foldl Jj (Jj z l[k]):=by
 rw[List.drop_eq_getElem_cons h,List.foldl_cons]
theorem TD (l:List DVal) (ha:l.length≤1099511627776):Ctr Tryz.prog 134 [.c (.sl (l.map DVal.c))] [.val (.agg (Ql (Ns l)))]:=by
 refine Ctr.mk Tryz.call134 Tryz.func134 rfl mixed Tryz.ntmps134 Tryz.results134 (by kernel_rfl) rfl fun hw=>?_
 simp only[go_sem,List.length_map]
 refine LoopU.mk 2 (A:=Nat×(DVal×DVal)) (fun x=>[(4,.c (.v (.int .i64 (x.1))))]) (fun x=>[⟨198,6,[Ql (zeroV,zeroV)],true,true⟩,⟨198,6,[Ql x.2],true,true⟩]) (fun x=>x.1≤l.length∧if x.1=0 then x.2=(zeroV,zeroV) else(l.drop x.1).foldl Jj x.2=Ns l) (fun x=>l.length-x.1) (0,(zeroV,zeroV)) ⟨⟨rfl,rfl⟩,rfl,Nat.zero_le _,rfl⟩ ?_
 rintro⟨k,z⟩ ⟨hk,hf⟩
 dsimp only at hk hf
 simp only[go_sem,List.length_map]
 refine cndC.mk (fun h=>?_) (fun h=>?_)
 ·have hk':k<l.length:=by simpa using h
  rcases hz:((k:Int)==0) with _ | _
  ·have hk0:k≠0:=by simp at hz; omega
   rw[if_neg hk0,Nv hk'] at hf
   simp only[go_sem,List.length_map,AA _ hk',hk',hz]
   refine DrawK.mk ?_
   simp only[go_sem,List.length_map,AA _ hk',hk',hz]
   refine CallF.mk _ (by simpa only[go_sem] using ER l[k] z.1) ?_
   rcases h1:Bi l[k] z.1 with _ | _
   all_goals
    simp only[go_sem,List.length_map,AA _ hk',hk',hz,h1]
    refine DrawK.mk ?_
    simp only[go_sem,List.length_map,AA _ hk',hk',hz,h1]
    refine CallF.mk _ (by simpa only[go_sem] using ER z.2 l[k]) ?_
    rcases h2:Bi z.2 l[k] with _ | _
    all_goals
     simp only[go_sem,List.length_map,AA _ hk',hk',hz,h1,h2,wrap_i64 (n:=(k:Int)+1) (by omega) (by omega)]
     refine⟨(k+1,Jj z l[k]),⟨rfl,rfl⟩, ?_,⟨by omega,by rw[if_neg (by omega)]; exact hf⟩,by simp only; omega⟩
     simp only[Jj,h1,h2,go_sem,reduceIte,Bool.false_eq_true]
     rfl
  ·have hk0:k=0:=by simp at hz; omega
   subst hk0
   simp only[go_sem,List.length_map,AA _ hk',hk',hz]
   try refine DrawK.mk ?_
   try simp only[go_sem,List.length_map,AA _ hk',hk',hz]
   try refine DrawK.mk ?_
   try simp only[go_sem,List.length_map,AA _ hk',hk',hz]
   exact⟨(1,(l[0],l[0])),⟨rfl,rfl⟩,rfl,⟨by omega,by rw[if_neg (by omega)]; rw[← YF hk',← Nu l[0],← Nv hk',Nu]; rfl⟩,by simp only; omega⟩
 ·have hk':k=l.length:=by simp at h; omega
  have hz:z=Ns l:=by
   split at hf
   ·have:l = []:=by apply List.eq_nil_of_length_eq_zero; omega
    subst this; exact hf
   ·subst hk'
    simpa using hf
  subst hz
  simp only[go_sem]
theorem TE (l:List DVal) (ha:l.length≤1099511627776):Ctr Tryz.prog 139 [.c (.sl (l.map DVal.c))] [.val (.agg (Ql (Ns l)))]:=by
 refine Ctr.mk Tryz.call139 Tryz.func139 rfl mixed Tryz.ntmps139 Tryz.results139 (by kernel_rfl) rfl fun hw=>?_
 simp only[go_sem,List.length_map]
 refine cndC.mk (fun h=>?_) (fun h=>?_)
 ·have hk':l = []:=by simpa using h
  subst hk'
  simp only[go_sem,List.length_map]
  try simp[Ns,Ql,DVal.c_eq,zeroV]
 ·have h0:0<l.length:=by simp at h; exact List.length_pos_iff.2 h
  simp only[go_sem,List.length_map,AA _ h0,h0]
  refine DrawK.mkE ?_
  have h00:((0:Int)==0)=true:=rfl
  simp only[go_sem,List.length_map,AA _ h0,h0]
  refine LoopU.mk 2 (A:=Nat×(DVal×DVal)) (fun x=>[(19,.c (.v (.int .i64 (x.1))))]) (fun x=>[⟨198,6,[Ql (zeroV,zeroV)],true,true⟩,⟨198,6,[Ql x.2],true,true⟩]) (fun x=>x.1≤l.length∧(l.drop x.1).foldl Jj x.2=Ns l) (fun x=>l.length-x.1) (0,(l[0],l[0])) ⟨⟨rfl,rfl⟩,rfl,Nat.zero_le _,YF h0⟩ ?_
  rintro⟨k,z⟩ ⟨hk,hf⟩
  dsimp only at hk hf
  simp (maxSteps:=1000000) only[go_sem,List.length_map]
  refine cndC.mk (fun h=>?_) (fun h=>?_)
  ·have hk':k<l.length:=by simpa using h
   rw[Nv hk'] at hf
   simp (maxSteps:=1000000) only[go_sem,List.length_map,AA _ hk',hk']
   refine CallK.mk _ (by simpa only[go_sem] using FD l[k] z.1) fun _=>?_
   rcases h1:Bi l[k] z.1 with _ | _
   all_goals
    simp (maxSteps:=1000000) only[go_sem,List.length_map,AA _ hk',hk',h1]
    refine CallK.mk _ (by simpa only[go_sem] using FD z.2 l[k]) fun _=>?_
    rcases h2:Bi z.2 l[k] with _ | _
    all_goals
     simp (maxSteps:=1000000) only[go_sem,List.length_map,AA _ hk',hk',h1,h2,wrap_i64 (n:=(k:Int)+1) (by omega) (by omega)]
     refine⟨(k+1,Jj z l[k]),⟨rfl,rfl⟩, ?_,⟨by omega,hf⟩,by simp only; omega⟩
     simp only[Jj,h1,h2,go_sem,reduceIte,Bool.false_eq_true]
     rfl
  ·have hk':k=l.length:=by simp at h; omega
   have hz:z=Ns l:=by
    subst hk'
    simpa using hf
   subst hz
   simp (maxSteps:=1000000) only[go_sem]
end Go.Proofs.YthoeeoddgkjkkaaGreat
/- Walks: what a condition says of a row. -/
namespace Go.Proofs.YthoeeoddgkjkkaaGreat
set_option linter.unusedSimpArgs false
set_option linter.unusedVariables false
open Go.Vm
set_option maxHeartbeats 2000000
set_option maxRecDepth 10000
mutual
def holds:DPred→List DVal→Bool
 | .mk kind col op v ps,l=>if(kind==1)=true then true else if(kind==2)=true then(if h:0≤col∧col.toNat<l.length then holds1 op (l[col.toNat]'h.2) v else false) else if(kind==3)=true then F_ ps l else if(kind==4)=true then GG ps l else if(kind==5)=true then Og ps l else false
def F_:List DPred→List DVal→Bool
 | [],_=>true
 | p::ps,l=>holds p l&&F_ ps l
def GG:List DPred→List DVal→Bool
 | [],_=>false
 | p::ps,l=>holds p l||GG ps l
def Og:List DPred→List DVal→Bool
 | [],_=>true
 | p::_,l=>!holds p l
end
theorem YG (p:DPred) (l:List DVal):holds p l=if(p.kind==1)=true then true else if(p.kind==2)=true then(if h:0≤p.col∧p.col.toNat<l.length then holds1 p.op (l[p.col.toNat]'h.2) p.v else false) else if(p.kind==3)=true then F_ p.l l else if(p.kind==4)=true then GG p.l l else if(p.kind==5)=true then Og p.l l else false:=by
 cases p
 rw[holds]
 rfl
theorem NU (ps:List DPred) (l:List DVal) {k:Nat} (h:k<ps.length):F_ (ps.drop k) l=(holds ps[k] l&&F_ (ps.drop (k+1)) l):=by
 rw[List.drop_eq_getElem_cons h,F_]
theorem Oh (l:List DVal):∀ (ps:List DPred) (h:0<ps.length),Og ps l = !holds ps[0] l
 | _::_,_=>by rw[Og]; rfl
theorem NV (ps:List DPred) (l:List DVal) {k:Nat} (h:k<ps.length):GG (ps.drop k) l=(holds ps[k] l||GG (ps.drop (k+1)) l):=by
 rw[List.drop_eq_getElem_cons h,GG]
theorem iK (p:DPred) (l:List DVal) (hf:DD p) (hl:l.length≤1048576) (hx:∀ x∈p.l,Ctr Tryz.prog 169 [.agg x.c,.c (.sl (l.map DVal.c))] [.val (.c (.v (.bool (holds x l))))]):Ctr Tryz.prog 169 [.agg p.c,.c (.sl (l.map DVal.c))] [.val (.c (.v (.bool (holds p l))))]:=by
 refine Ctr.mk Tryz.call169 Tryz.func169 rfl mixed Tryz.ntmps169 Tryz.results169 (by kernel_rfl) rfl fun hw=>?_
 have hpl:p.l.length≤1048576:=by rw[Eo] at hf; exact hf.2.1
 have he:=YG p l
 rcases h1:p.kind==1 with _ | _
 rotate_left
 ·rw[if_pos h1] at he
  simp only[go_sem,h1,he]
 rw[if_neg (by rw[h1]; decide)] at he
 rcases h2:p.kind==2 with _ | _
 rotate_left
 ·rw[if_pos h2] at he
  simp only[go_sem,List.length_map,h1,h2]
  by_cases hn:0≤p.col∧p.col.toNat<l.length
  ·rw[dif_pos hn] at he
   obtain⟨m,hm⟩:=Int.eq_ofNat_of_zero_le hn.1
   have hml:m<l.length:=by have:=hn.2; rw[hm] at this; simpa using this
   have hlm:l[p.col.toNat]'hn.2=l[m]:=by congr 1; rw[hm]; rfl
   rw[hlm] at he
   have e1:BQ (m:Int) 0 (IntKind.i64.wrap ((l.length:Int)-1))=true:=by rw[wrap_i64 (by omega) (by omega)]; simp[BQ]; omega
   refine DrawK.mk ?_
   simp only[go_sem,List.length_map,h1,h2,hm]
   refine CallF.mk _ (Am (m:Int) 0 _) ?_
   simp only[go_sem,List.length_map,h1,h2,hm,e1,AA _ hml,hml]
   refine CallF.mk _ (by simpa only[go_sem] using WC p.op l[m] p.v) ?_
   simp only[go_sem,List.length_map,h1,h2,hm,e1,AA _ hml,hml,he]
  ·rw[dif_neg hn] at he
   rw[he]
   have e1:BQ p.col 0 (IntKind.i64.wrap ((l.length:Int)-1))=false:=by rw[wrap_i64 (by omega) (by omega)]; simp[BQ]; intro h0; have:¬ p.col.toNat<l.length:=fun hh=>hn ⟨h0,hh⟩; omega
   refine DrawK.mk ?_
   simp only[go_sem,List.length_map,h1,h2]
   refine CallF.mk _ (Am p.col 0 _) ?_
   simp only[go_sem,List.length_map,h1,h2,e1]
 rw[if_neg (by rw[h2]; decide)] at he
 rcases h3:p.kind==3 with _ | _
 rotate_left
 ·rw[if_pos h3] at he
  rw[he]
  simp only[go_sem,List.length_map,h1,h2,h3]
  refine LoopU.mk 1 (A:=Nat) (fun k=>[(5,.c (.v (.int .i64 (k))))]) (fun _=>[⟨78,7,[[.v (.int .i64 p.kind),.v (.int .i64 p.col),.v (.int .i64 p.op),.v (.int .i64 p.v.ty),.v (.int .i64 p.v.n),.v (.string p.v.s),.sl (p.l.map DPred.c)]],true,true⟩]) (fun k=>k≤p.l.length∧F_ (p.l.drop k) l=F_ p.l l) (fun k=>p.l.length-k) 0 ⟨⟨rfl,rfl⟩,rfl,Nat.zero_le _,rfl⟩ ?_
  rintro k ⟨hk,hb⟩
  simp only[go_sem,List.length_map]
  refine cndC.mk (fun h=>?_) (fun h=>?_)
  ·have hk':k<p.l.length:=by simpa using h
   rw[NU p.l l hk'] at hb
   simp only[go_sem,List.length_map,AA _ hk',hk']
   try refine DrawK.mk ?_
   try simp only[go_sem,List.length_map,AA _ hk',hk']
   first | refine CallF.mk _ (by simpa only[go_sem] using hx p.l[k] (List.getElem_mem hk')) ?_ | refine CallK.mk _ (by simpa only[go_sem] using hx p.l[k] (List.getElem_mem hk')) fun _=>?_
   rcases hv:holds p.l[k] l with _ | _
   ·simp only[go_sem,hv]
    rw[hv,Bool.false_and] at hb
    rw[← hb]
   ·simp only[go_sem,hv,wrap_i64 (n:=(k:Int)+1) (by omega) (by omega)]
    rw[hv,Bool.true_and] at hb
    exact⟨k+1,⟨rfl,rfl⟩,rfl,⟨by omega,hb⟩,by omega⟩
  ·have hk':k=p.l.length:=by simp at h; omega
   subst hk'
   simp only[go_sem]
   rw[← hb,List.drop_length]; rfl
 rw[if_neg (by rw[h3]; decide)] at he
 rcases h4:p.kind==4 with _ | _
 rotate_left
 ·rw[if_pos h4] at he
  rw[he]
  simp only[go_sem,List.length_map,h1,h2,h3,h4]
  refine LoopU.mk 1 (A:=Nat) (fun k=>[(6,.c (.v (.int .i64 (k))))]) (fun _=>[⟨78,7,[[.v (.int .i64 p.kind),.v (.int .i64 p.col),.v (.int .i64 p.op),.v (.int .i64 p.v.ty),.v (.int .i64 p.v.n),.v (.string p.v.s),.sl (p.l.map DPred.c)]],true,true⟩]) (fun k=>k≤p.l.length∧GG (p.l.drop k) l=GG p.l l) (fun k=>p.l.length-k) 0 ⟨⟨rfl,rfl⟩,rfl,Nat.zero_le _,rfl⟩ ?_
  rintro k ⟨hk,hb⟩
  simp only[go_sem,List.length_map]
  refine cndC.mk (fun h=>?_) (fun h=>?_)
  ·have hk':k<p.l.length:=by simpa using h
   rw[NV p.l l hk'] at hb
   simp only[go_sem,List.length_map,AA _ hk',hk']
   try refine DrawK.mk ?_
   try simp only[go_sem,List.length_map,AA _ hk',hk']
   first | refine CallF.mk _ (by simpa only[go_sem] using hx p.l[k] (List.getElem_mem hk')) ?_ | refine CallK.mk _ (by simpa only[go_sem] using hx p.l[k] (List.getElem_mem hk')) fun _=>?_
   rcases hv:holds p.l[k] l with _ | _
   ·simp only[go_sem,hv,wrap_i64 (n:=(k:Int)+1) (by omega) (by omega)]
    rw[hv,Bool.false_or] at hb
    exact⟨k+1,⟨rfl,rfl⟩,rfl,⟨by omega,hb⟩,by omega⟩
   ·simp only[go_sem,hv]
    rw[hv,Bool.true_or] at hb
    rw[← hb]
  ·have hk':k=p.l.length:=by simp at h; omega
   subst hk'
   simp only[go_sem]
   rw[← hb,List.drop_length]; rfl
 rw[if_neg (by rw[h4]; decide)] at he
 rcases h5:p.kind==5 with _ | _
 rotate_left
 ·rw[if_pos h5] at he
  rw[he]
  rcases h0:((p.l.length:Int)==0) with _ | _
  ·have hp0:0<p.l.length:=by simp at h0; exact List.length_pos_iff.2 h0
   simp only[go_sem,List.length_map,h1,h2,h3,h4,h5,h0,Bool.not_false,AA _ hp0,hp0]
   try refine DrawK.mk ?_
   try simp only[go_sem,List.length_map,h1,h2,h3,h4,h5,h0,Bool.not_false,AA _ hp0,hp0]
   first | refine CallF.mk _ (by simpa only[go_sem] using hx p.l[0] (List.getElem_mem hp0)) ?_ | refine CallK.mk _ (by simpa only[go_sem] using hx p.l[0] (List.getElem_mem hp0)) fun _=>?_
   have:=Oh l p.l hp0
   simp only[go_sem,h0,this]
  ·have hp0:p.l = []:=by simpa using h0
   simp only[go_sem,List.length_map,h1,h2,h3,h4,h5,h0,Bool.not_true]
   rw[hp0]; rfl
 rw[if_neg (by rw[h5]; decide)] at he
 simp only[go_sem,List.length_map,h1,h2,h3,h4,h5,he]
theorem YH (l:List DVal) (hl:l.length≤1048576):∀ (n:Nat) (p:DPred),SizeOf.sizeOf p≤n→DD p→Ctr Tryz.prog 169 [.agg p.c,.c (.sl (l.map DVal.c))] [.val (.c (.v (.bool (holds p l))))]:=by
 intro n
 induction n with
 | zero=>intro p h; cases p; simp at h
 | succ n ih =>
  intro p h hf
  refine iK p l hf hl fun x hx=>ih x ?_ ?_
  ·have h1:SizeOf.sizeOf x<SizeOf.sizeOf p.l:=List.sizeOf_lt_of_mem hx
   have h2:SizeOf.sizeOf p.l<SizeOf.sizeOf p:=by cases p; simp[DPred.l]; omega
   omega
  ·rw[Eo] at hf; exact hf.2.2 x hx
theorem Qm (p:DPred) (l:List DVal) (hf:DD p) (hl:l.length≤1048576):Ctr Tryz.prog 169 [.agg p.c,.c (.sl (l.map DVal.c))] [.val (.c (.v (.bool (holds p l))))]:=YH l hl _ p (Nat.le_refl _) hf
theorem iL (p:DPred) (l:List DVal) (hf:DD p) (hl:l.length≤1048576) (hx:∀ x∈p.l,Ctr Tryz.prog 171 [.agg x.c,.c (.sl (l.map DVal.c))] [.val (.c (.v (.bool (holds x l))))]):Ctr Tryz.prog 171 [.agg p.c,.c (.sl (l.map DVal.c))] [.val (.c (.v (.bool (holds p l))))]:=by
 refine Ctr.mk Tryz.call171 Tryz.func171 rfl mixed Tryz.ntmps171 Tryz.results171 (by kernel_rfl) rfl fun hw=>?_
 have hpl:p.l.length≤1048576:=by rw[Eo] at hf; exact hf.2.1
 have he:=YG p l
 rcases h1:p.kind==1 with _ | _
 rotate_left
 ·rw[if_pos h1] at he
  simp only[go_sem,h1,he]
 rw[if_neg (by rw[h1]; decide)] at he
 rcases h2:p.kind==2 with _ | _
 rotate_left
 ·rw[if_pos h2] at he
  simp only[go_sem,List.length_map,h1,h2]
  by_cases hn:0≤p.col∧p.col.toNat<l.length
  ·rw[dif_pos hn] at he
   obtain⟨m,hm⟩:=Int.eq_ofNat_of_zero_le hn.1
   have hml:m<l.length:=by have:=hn.2; rw[hm] at this; simpa using this
   have hlm:l[p.col.toNat]'hn.2=l[m]:=by congr 1; rw[hm]; rfl
   rw[hlm] at he
   have e1:decide ((m:Int)≥0)=true:=by simp
   have e2:decide ((m:Int)<(l.length:Int))=true:=by simp; omega
   refine DrawK.mk ?_
   simp only[go_sem,List.length_map,h1,h2,hm,e1,e2,AA _ hml,hml]
   refine CallF.mk _ (by simpa only[go_sem] using WE p.op l[m] p.v) ?_
   simp only[go_sem,List.length_map,h1,h2,hm,e1,e2,AA _ hml,hml,he]
  ·rw[dif_neg hn] at he
   rw[he]
   refine DrawK.mk ?_
   rcases e1:decide (p.col≥0) with _ | _
   ·simp only[go_sem,List.length_map,h1,h2,e1]
   ·have e2:decide (p.col<(l.length:Int))=false:=by simp at e1 ⊢; have:¬ p.col.toNat<l.length:=fun hh=>hn ⟨e1,hh⟩; omega
    simp only[go_sem,List.length_map,h1,h2,e1,e2]
 rw[if_neg (by rw[h2]; decide)] at he
 rcases h3:p.kind==3 with _ | _
 rotate_left
 ·rw[if_pos h3] at he
  rw[he]
  simp only[go_sem,List.length_map,h1,h2,h3]
  refine LoopU.mk 1 (A:=Nat) (fun k=>[(42,.c (.v (.int .i64 (k))))]) (fun _=>[⟨78,7,[[.v (.int .i64 p.kind),.v (.int .i64 p.col),.v (.int .i64 p.op),.v (.int .i64 p.v.ty),.v (.int .i64 p.v.n),.v (.string p.v.s),.sl (p.l.map DPred.c)]],true,true⟩]) (fun k=>k≤p.l.length∧F_ (p.l.drop k) l=F_ p.l l) (fun k=>p.l.length-k) 0 ⟨⟨rfl,rfl⟩,rfl,Nat.zero_le _,rfl⟩ ?_
  rintro k ⟨hk,hb⟩
  simp only[go_sem,List.length_map]
  refine cndC.mk (fun h=>?_) (fun h=>?_)
  ·have hk':k<p.l.length:=by simpa using h
   rw[NU p.l l hk'] at hb
   simp only[go_sem,List.length_map,AA _ hk',hk']
   try refine DrawK.mk ?_
   try simp only[go_sem,List.length_map,AA _ hk',hk']
   first | refine CallF.mk _ (by simpa only[go_sem] using hx p.l[k] (List.getElem_mem hk')) ?_ | refine CallK.mk _ (by simpa only[go_sem] using hx p.l[k] (List.getElem_mem hk')) fun _=>?_
   rcases hv:holds p.l[k] l with _ | _
   ·simp only[go_sem,hv]
    rw[hv,Bool.false_and] at hb
    rw[← hb]
   ·simp only[go_sem,hv,wrap_i64 (n:=(k:Int)+1) (by omega) (by omega)]
    rw[hv,Bool.true_and] at hb
    exact⟨k+1,⟨rfl,rfl⟩,rfl,⟨by omega,hb⟩,by omega⟩
  ·have hk':k=p.l.length:=by simp at h; omega
   subst hk'
   simp only[go_sem]
   rw[← hb,List.drop_length]; rfl
 rw[if_neg (by rw[h3]; decide)] at he
 rcases h4:p.kind==4 with _ | _
 rotate_left
 ·rw[if_pos h4] at he
  rw[he]
  simp only[go_sem,List.length_map,h1,h2,h3,h4]
  refine LoopU.mk 1 (A:=Nat) (fun k=>[(56,.c (.v (.int .i64 (k))))]) (fun _=>[⟨78,7,[[.v (.int .i64 p.kind),.v (.int .i64 p.col),.v (.int .i64 p.op),.v (.int .i64 p.v.ty),.v (.int .i64 p.v.n),.v (.string p.v.s),.sl (p.l.map DPred.c)]],true,true⟩]) (fun k=>k≤p.l.length∧GG (p.l.drop k) l=GG p.l l) (fun k=>p.l.length-k) 0 ⟨⟨rfl,rfl⟩,rfl,Nat.zero_le _,rfl⟩ ?_
  rintro k ⟨hk,hb⟩
  simp only[go_sem,List.length_map]
  refine cndC.mk (fun h=>?_) (fun h=>?_)
  ·have hk':k<p.l.length:=by simpa using h
   rw[NV p.l l hk'] at hb
   simp only[go_sem,List.length_map,AA _ hk',hk']
   try refine DrawK.mk ?_
   try simp only[go_sem,List.length_map,AA _ hk',hk']
   first | refine CallF.mk _ (by simpa only[go_sem] using hx p.l[k] (List.getElem_mem hk')) ?_ | refine CallK.mk _ (by simpa only[go_sem] using hx p.l[k] (List.getElem_mem hk')) fun _=>?_
   rcases hv:holds p.l[k] l with _ | _
   ·simp only[go_sem,hv,wrap_i64 (n:=(k:Int)+1) (by omega) (by omega)]
    rw[hv,Bool.false_or] at hb
    exact⟨k+1,⟨rfl,rfl⟩,rfl,⟨by omega,hb⟩,by omega⟩
   ·simp only[go_sem,hv]
    rw[hv,Bool.true_or] at hb
    rw[← hb]
  ·have hk':k=p.l.length:=by simp at h; omega
   subst hk'
   simp only[go_sem]
   rw[← hb,List.drop_length]; rfl
 rw[if_neg (by rw[h4]; decide)] at he
 rcases h5:p.kind==5 with _ | _
 rotate_left
 ·rw[if_pos h5] at he
  rw[he]
  rcases h0:((p.l.length:Int)==0) with _ | _
  ·have hp0:0<p.l.length:=by simp at h0; exact List.length_pos_iff.2 h0
   simp only[go_sem,List.length_map,h1,h2,h3,h4,h5,h0,Bool.not_false,AA _ hp0,hp0]
   try refine DrawK.mk ?_
   try simp only[go_sem,List.length_map,h1,h2,h3,h4,h5,h0,Bool.not_false,AA _ hp0,hp0]
   first | refine CallF.mk _ (by simpa only[go_sem] using hx p.l[0] (List.getElem_mem hp0)) ?_ | refine CallK.mk _ (by simpa only[go_sem] using hx p.l[0] (List.getElem_mem hp0)) fun _=>?_
   have:=Oh l p.l hp0
   simp only[go_sem,h0,this]
  ·have hp0:p.l = []:=by simpa using h0
   simp only[go_sem,List.length_map,h1,h2,h3,h4,h5,h0,Bool.not_true]
   rw[hp0]; rfl
 rw[if_neg (by rw[h5]; decide)] at he
 simp only[go_sem,List.length_map,h1,h2,h3,h4,h5,he]
theorem YI (l:List DVal) (hl:l.length≤1048576):∀ (n:Nat) (p:DPred),SizeOf.sizeOf p≤n→DD p→Ctr Tryz.prog 171 [.agg p.c,.c (.sl (l.map DVal.c))] [.val (.c (.v (.bool (holds p l))))]:=by
 intro n
 induction n with
 | zero=>intro p h; cases p; simp at h
 | succ n ih =>
  intro p h hf
  refine iL p l hf hl fun x hx=>ih x ?_ ?_
  ·have h1:SizeOf.sizeOf x<SizeOf.sizeOf p.l:=List.sizeOf_lt_of_mem hx
   have h2:SizeOf.sizeOf p.l<SizeOf.sizeOf p:=by cases p; simp[DPred.l]; omega
   omega
  ·rw[Eo] at hf; exact hf.2.2 x hx
theorem Qn (p:DPred) (l:List DVal) (hf:DD p) (hl:l.length≤1048576):Ctr Tryz.prog 171 [.agg p.c,.c (.sl (l.map DVal.c))] [.val (.c (.v (.bool (holds p l))))]:=YI l hl _ p (Nat.le_refl _) hf
end Go.Proofs.YthoeeoddgkjkkaaGreat
