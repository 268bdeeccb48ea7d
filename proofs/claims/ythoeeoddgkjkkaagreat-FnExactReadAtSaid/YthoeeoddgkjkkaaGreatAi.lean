/- Walks: the rows that are meant, and the answer to a question. -/
import Derived.Test.YthoeeoddgkjkkaaGreatAd
namespace Go.Proofs.YthoeeoddgkjkkaaGreat
set_option linter.unusedSimpArgs false
set_option linter.unusedVariables false
open Go.Vm
set_option maxHeartbeats 2000000
set_option maxRecDepth 10000
def Hu (q:DQuery):List Cl:=[.v (.int .i64 q.kind),.v (.int .i64 q.p.kind),.v (.int .i64 q.p.col),.v (.int .i64 q.p.op),.v (.int .i64 q.p.v.ty),.v (.int .i64 q.p.v.n),.v (.string q.p.v.s),.sl (q.p.l.map DPred.c),.v (.int .i64 q.col),.sl (q.out.map intC)]
@[go_sem] theorem qL (q:DQuery):Hu q = [.v (.int .i64 q.kind),.v (.int .i64 q.p.kind),.v (.int .i64 q.p.col),.v (.int .i64 q.p.op),.v (.int .i64 q.p.v.ty),.v (.int .i64 q.p.v.n),.v (.string q.p.v.s),.sl (q.p.l.map DPred.c),.v (.int .i64 q.col),.sl (q.out.map intC)]:=rfl
def meant (q:DQuery) (l:List DRow):List DRow:=l.filter fun r=>holds q.p r.l
theorem TF {q:DQuery} {l:List DRow} {k:Nat} (h:k<l.length):meant q (l.drop k)=(if holds q.p l[k].l=true then [l[k]] else [])++meant q (l.drop (k+1)):=by
 unfold meant
 rw[List.drop_eq_getElem_cons h,List.filter_cons]
 split<;>rfl
theorem YJ (q:DQuery) (l:List DRow) (hq:Dy q) (hl:Hw BI l):Ctr Tryz.prog 137 [.agg q.c,.c (.sl (l.map DRow.c))] [.own 121 2 ((meant q l).map DRow.o) true]:=by
 rw[Ej] at hq
 refine Ctr.mk Tryz.call137 Tryz.func137 rfl mixed Tryz.ntmps137 Tryz.results137 (by kernel_rfl) rfl fun hw=>?_
 simp only[go_sem,List.length_map]
 refine LoopH.mk [8] (A:=Nat×List DRow) (fun x=>[(11,.c (.v (.int .i64 (x.1)))),(5,.c (.ref 1))]) (fun x=>[⟨80,10,[Hu q],true,true⟩,⟨121,2,x.2.map DRow.o,true,true⟩]) (fun x=>x.1≤l.length∧x.2++meant q (l.drop x.1)=meant q l) (fun x=>l.length-x.1) (0,[]) (Head.sel [(0,false),(1,false)] ⟨rfl,rfl,rfl,rfl,trivial⟩ rfl) ⟨Nat.zero_le _,rfl⟩ ?_
 rintro⟨k,out⟩ ⟨hk,hb⟩
 dsimp only at hk hb
 have hol:out.length≤k:=by
  have h1:meant q l=meant q (l.take k)++meant q (l.drop k):=by unfold meant; rw[← List.filter_append,List.take_append_drop]
  rw[List.append_cancel_right (hb.trans h1)]
  exact Nat.le_trans (List.length_filter_le _ _) (by simp; omega)
 have hlen:=hl.1
 simp only[go_sem,List.length_map]
 refine cndC.mk (fun h=>?_) (fun h=>?_)
 ·have hk':k<l.length:=by simpa using h
  rw[TF hk'] at hb
  have hr:=hl.2 _ (List.getElem_mem hk')
  rw[Bf] at hr
  have hrl:=hr.1
  have hol2:out.length+1≤1099511627776:=by omega
  simp only[go_sem,List.length_map,AA _ hk',hk',Option.getD_some]
  try refine DrawK.mk ?_
  try simp only[go_sem,List.length_map,AA _ hk',hk',Option.getD_some]
  first | refine CallF.mk _ (by simpa only[go_sem] using Qn q.p l[k].l hq.1 hrl) ?_ | refine CallK.mk _ (by simpa only[go_sem] using Qn q.p l[k].l hq.1 hrl) fun _=>?_
  rcases hc:holds q.p l[k].l with _ | _
  ·rw[if_neg (by simp[hc]),List.nil_append] at hb
   simp only[go_sem,List.length_map,AA _ hk',hk',hc,Option.getD_some,wrap_i64 (n:=(k:Int)+1) (by omega) (by omega)]
   exact⟨(k+1,out),Head.sel [(0,false),(1,true)] ⟨rfl,rfl,rfl,Ef (AX _),trivial⟩ (by
    show (⟨27,_,[_,⟨121,2,(out.map DRow.o).map (fun x=>x.map (NQ [(0,false),(1,true)])),true,true⟩]⟩:MS)=_
    rw[Ee (AX out)]; rfl),⟨hk',hb⟩,by simp only; omega⟩
  ·rw[if_pos (by simp[hc])] at hb
   simp only[go_sem,List.length_map,AA _ hk',hk',hc,Option.getD_some,wrap_i64 (n:=(k:Int)+1) (by omega) (by omega)]
   refine CallK.mk _ (by simpa only[go_sem] using Hq l[k] hrl) fun _=>?_
   simp only[go_sem,List.all_cons,List.all_nil,List.length_map,AA _ hk',hk',hol2,PS,Bool.false_eq_true,Option.getD_some,wrap_i64 (n:=(k:Int)+1) (by omega) (by omega)]
   refine⟨(k+1,out ++ [l[k]]),Head.selAbs [(0,false),(5,true),(3,false)] 2 1 ⟨rfl,rfl,rfl,I4 DRow.o_nr _ out rfl,AL DVal.pure,trivial⟩ ⟨out.length,out.map DRow.o ++ [DRow.o l[k]],_,DRow.o l[k],_,⟨Nat.lt_succ_self 1,rfl,Iz DRow.o_nr _ out _ _,by simp,rfl⟩,
    ⟨rfl,rfl,rfl,rfl,rfl,rfl,Bl _,by simp[GI],fun l hl=>by simp[GI] at hl; omega⟩,⟨rfl, ?tr⟩, ?eq⟩,⟨hk',by rw[← hb,List.append_assoc]⟩,by simp only; omega⟩
   case tr=>unfold BN; rw[CE]; exact all2 rfl (Ad (AX _))
   case eq=>unfold BN; rw[CE,List.map_append]; rfl
 ·have hk':k=l.length:=by simp at h; omega
  subst hk'
  rw[List.drop_length] at hb
  have:out=meant q l:=by simpa [meant] using hb
  subst this
  simp only[go_sem,AX]
  try simp
theorem YK (q:DQuery) (l:List DRow) (hq:Dy q) (hl:Hw BI l):Ctr Tryz.prog 131 [.agg q.c,.c (.sl (l.map DRow.c))] [.own 121 2 ((meant q l).map DRow.o) true]:=by
 rw[Ej] at hq
 refine Ctr.mk Tryz.call131 Tryz.func131 rfl mixed Tryz.ntmps131 Tryz.results131 (by kernel_rfl) rfl fun hw=>?_
 simp only[go_sem,List.length_map]
 refine LoopH.mk [8] (A:=Nat×List DRow) (fun x=>[(6,.c (.v (.int .i64 (x.1)))),(5,.c (.ref 1))]) (fun x=>[⟨80,10,[Hu q],true,true⟩,⟨121,2,x.2.map DRow.o,true,true⟩]) (fun x=>x.1≤l.length∧x.2++meant q (l.drop x.1)=meant q l) (fun x=>l.length-x.1) (0,[]) (Head.sel [(0,false),(1,false)] ⟨rfl,rfl,rfl,rfl,trivial⟩ rfl) ⟨Nat.zero_le _,rfl⟩ ?_
 rintro⟨k,out⟩ ⟨hk,hb⟩
 dsimp only at hk hb
 have hol:out.length≤k:=by
  have h1:meant q l=meant q (l.take k)++meant q (l.drop k):=by unfold meant; rw[← List.filter_append,List.take_append_drop]
  rw[List.append_cancel_right (hb.trans h1)]
  exact Nat.le_trans (List.length_filter_le _ _) (by simp; omega)
 have hlen:=hl.1
 simp only[go_sem,List.length_map]
 refine cndC.mk (fun h=>?_) (fun h=>?_)
 ·have hk':k<l.length:=by simpa using h
  rw[TF hk'] at hb
  have hr:=hl.2 _ (List.getElem_mem hk')
  rw[Bf] at hr
  have hrl:=hr.1
  have hol2:out.length+1≤1099511627776:=by omega
  simp only[go_sem,List.length_map,AA _ hk',hk',Option.getD_some]
  try refine DrawK.mk ?_
  try simp only[go_sem,List.length_map,AA _ hk',hk',Option.getD_some]
  first | refine CallF.mk _ (by simpa only[go_sem] using Qm q.p l[k].l hq.1 hrl) ?_ | refine CallK.mk _ (by simpa only[go_sem] using Qm q.p l[k].l hq.1 hrl) fun _=>?_
  rcases hc:holds q.p l[k].l with _ | _
  ·rw[if_neg (by simp[hc]),List.nil_append] at hb
   simp only[go_sem,List.length_map,AA _ hk',hk',hc,Option.getD_some,wrap_i64 (n:=(k:Int)+1) (by omega) (by omega)]
   exact⟨(k+1,out),Head.sel [(0,false),(1,true)] ⟨rfl,rfl,rfl,Ef (AX _),trivial⟩ (by
    show (⟨33,_,[_,⟨121,2,(out.map DRow.o).map (fun x=>x.map (NQ [(0,false),(1,true)])),true,true⟩]⟩:MS)=_
    rw[Ee (AX out)]; rfl),⟨hk',hb⟩,by simp only; omega⟩
  ·rw[if_pos (by simp[hc])] at hb
   simp only[go_sem,List.length_map,AA _ hk',hk',hc,Option.getD_some,wrap_i64 (n:=(k:Int)+1) (by omega) (by omega)]
   refine CallK.mk _ (by simpa only[go_sem] using Hy l[k] hrl) fun _=>?_
   simp only[go_sem,List.all_cons,List.all_nil,List.length_map,AA _ hk',hk',hol2,PS,Bool.false_eq_true,Option.getD_some,wrap_i64 (n:=(k:Int)+1) (by omega) (by omega)]
   refine⟨(k+1,out ++ [l[k]]),Head.selAbs [(0,false),(5,true),(2,false)] 2 1 ⟨rfl,rfl,rfl,I4 DRow.o_nr _ out rfl,AL DVal.pure,trivial⟩ ⟨out.length,out.map DRow.o ++ [DRow.o l[k]],_,DRow.o l[k],_,⟨Nat.lt_succ_self 1,rfl,Iz DRow.o_nr _ out _ _,by simp,rfl⟩,
    ⟨rfl,rfl,rfl,rfl,rfl,rfl,Bl _,by simp[GI],fun l hl=>by simp[GI] at hl; omega⟩,⟨rfl, ?tr⟩, ?eq⟩,⟨hk',by rw[← hb,List.append_assoc]⟩,by simp only; omega⟩
   case tr=>unfold BN; rw[CE]; exact all2 rfl (Ad (AX _))
   case eq=>unfold BN; rw[CE,List.map_append]; rfl
 ·have hk':k=l.length:=by simp at h; omega
  subst hk'
  rw[List.drop_length] at hb
  have:out=meant q l:=by simpa [meant] using hb
  subst this
  simp only[go_sem,AX]
  try simp
end Go.Proofs.YthoeeoddgkjkkaaGreat
/- Walks: the answer to a question. -/
namespace Go.Proofs.YthoeeoddgkjkkaaGreat
set_option linter.unusedSimpArgs false
set_option linter.unusedVariables false
open Go.Vm
set_option maxHeartbeats 2000000
set_option maxRecDepth 10000
def NL (r:DRow) (cols:List Int):List DVal:=cols.filterMap fun k=>if 0≤k then r.l[k.toNat]? else none
def LC (r:DRow) (cols:List Int):DRow:=⟨r.id,NL r cols⟩
theorem VP {r:DRow} {cols:List Int} {k:Nat} (h:k<cols.length):NL r (cols.drop k)=(if h2:0≤cols[k]∧cols[k].toNat<r.l.length then [r.l[cols[k].toNat]'h2.2] else [])++NL r (cols.drop (k+1)):=by
 unfold NL
 rw[List.drop_eq_getElem_cons h,List.filterMap_cons]
 by_cases h1:0≤cols[k]
 ·by_cases h2:cols[k].toNat<r.l.length
  ·simp[h1,h2]
  ·simp[h1,h2]
 ·simp[h1]
theorem iM (r:DRow) (cols:List Int) (hr:r.l.length≤1048576) (hc:cols.length≤1048576):Ctr Tryz.prog 133 [.agg r.c,.c (.sl (cols.map intC))] [.agg (LC r cols).o]:=by
 refine Ctr.mk Tryz.call133 Tryz.func133 rfl mixed Tryz.ntmps133 Tryz.results133 (by kernel_rfl) rfl fun hw=>?_
 simp only[go_sem,List.length_map]
 refine LoopH.mk [9,10] (A:=Nat×List DVal) (fun x=>[(6,.c (.v (.int .i64 (x.1))))]) (fun x=>[⟨121,2,[[.v (.int .i64 r.id),.sl (r.l.map DVal.c)]],true,true⟩,⟨121,2,[LD],true,true⟩,⟨72,3,x.2.map DVal.c,true,true⟩,⟨121,2,[[.v (.int .i64 r.id),.ref 2]],true,true⟩]) (fun x=>x.1≤cols.length∧x.2++NL r (cols.drop x.1)=NL r cols) (fun x=>cols.length-x.1) (0,[]) (Head.sel [(0,false),(1,true),(2,false),(3,true)] ⟨rfl,rfl,rfl,rfl,rfl,rfl,trivial⟩ rfl) ⟨Nat.zero_le _,rfl⟩ ?_
 rintro⟨k,out⟩ ⟨hk,hb⟩
 dsimp only at hk hb
 have hol:out.length≤cols.length:=by
  have h1:(NL r cols).length≤cols.length:=List.length_filterMap_le _ _
  rw[← hb] at h1
  simp at h1; omega
 simp only[go_sem,List.length_map,LD]
 refine cndC.mk (fun h=>?_) (fun h=>?_)
 ·have hk':k<cols.length:=by simpa using h
  rw[VP hk'] at hb
  simp only[go_sem,List.length_map,AA _ hk',hk',Option.getD_some]
  refine DrawK.mk ?_
  simp only[go_sem,List.length_map,AA _ hk',hk',Option.getD_some]
  refine CallF.mk _ (Am cols[k] 0 _) ?_
  rw[wrap_i64 (n:=(r.l.length:Int)-1) (by omega) (by omega)]
  by_cases hn:0≤cols[k]∧cols[k].toNat<r.l.length
  ·rw[dif_pos hn] at hb
   obtain⟨m,hm0⟩:=Int.eq_ofNat_of_zero_le hn.1
   have hm:m<r.l.length:=by have:=hn.2; rw[hm0] at this; simpa using this
   have hlm:r.l[cols[k].toNat]'hn.2=r.l[m]:=by congr 1; rw[hm0]; rfl
   rw[hlm] at hb
   have e1:BQ (m:Int) 0 ((r.l.length:Int)-1)=true:=by simp[BQ]; omega
   have hol2:out.length+1≤2147483648:=by omega
   simp only[go_sem,List.length_map,AA _ hk',AA _ hm,hk',hm,hm0,e1,hol2,Option.getD_some]
   refine DrawK.mkE ?_
   simp only[go_sem,List.all_cons,List.all_nil,List.length_map,AA _ hk',AA _ hm,hk',hm,hm0,e1,hol2,Option.getD_some,wrap_i64 (n:=(k:Int)+1) (by omega) (by omega)]
   exact⟨(k+1,out ++ [r.l[m]]),Head.sel [(0,false),(1,true),(5,false),(3,true)] ⟨rfl,rfl,rfl,rfl,by rw[← Hz]; exact AL DVal.pure,rfl,trivial⟩ (by rw[← Hz]; rfl),⟨hk',by rw[← hb,List.append_assoc]⟩,by simp only; omega⟩
  ·rw[dif_neg hn,List.nil_append] at hb
   have e1:BQ cols[k] 0 ((r.l.length:Int)-1)=false:=by simp[BQ]; intro h1; have:¬ cols[k].toNat<r.l.length:=fun hh=>hn ⟨h1,hh⟩; omega
   simp only[go_sem,List.length_map,AA _ hk',hk',e1,wrap_i64 (n:=(k:Int)+1) (by omega) (by omega)]
   exact⟨(k+1,out),Head.sel [(0,false),(1,true),(2,false),(3,true)] ⟨rfl,rfl,rfl,rfl,AL DVal.pure,rfl,trivial⟩ rfl,⟨hk',hb⟩,by simp only; omega⟩
 ·have hk':k=cols.length:=by simp at h; omega
  subst hk'
  rw[List.drop_length] at hb
  have:out=NL r cols:=by simpa [NL] using hb
  subst this
  simp only[go_sem,LC,Bl]
  try simp[AU,AC]
theorem AAj {N:Nat} {a b c d:Ob} (ha:Bh N a=true) (hb:Bh N b=true) (hc:Bh N c=true) (hd:Bh N d=true) : [a,b,c,d].all (Bh N)=true:=by simp[ha,hb,hc,hd]
def IJ (n:Int):List Cl:=[.v (.slice none 0 0),.v (.int .i64 n),.v (.bool false),.v (.int .i64 0),.v (.int .i64 0),.v (.string ByteArray.empty)]
@[go_sem] theorem xG (n:Int):IJ n = [.v (.slice none 0 0),.v (.int .i64 n),.v (.bool false),.v (.int .i64 0),.v (.int .i64 0),.v (.string ByteArray.empty)]:=rfl
def SE (l:Nat):List Cl:=[.ref l,.v (.int .i64 0),.v (.bool false),.v (.int .i64 0),.v (.int .i64 0),.v (.string ByteArray.empty)]
@[go_sem] theorem sQ (l:Nat):SE l = [.ref l,.v (.int .i64 0),.v (.bool false),.v (.int .i64 0),.v (.int .i64 0),.v (.string ByteArray.empty)]:=rfl
def aN (l:List DVal):Int:=l.foldl (fun n v=>IntKind.i64.wrap (n+v.n)) 0
def answer (q:DQuery) (l:List DRow):DResult:=
 if(q.kind==1)=true then⟨(meant q l).map fun r=>LC r q.out,0,false,zeroV⟩ else
 if(q.kind==2)=true then⟨[],(meant q l).length,false,zeroV⟩ else
 if(q.kind==3)=true then⟨[],aN (B_ (meant q l) q.col),false,zeroV⟩ else
 if(q.kind==4)=true then⟨[],0,decide (((B_ (meant q l) q.col).length:Int)>0),(Ns (B_ (meant q l) q.col)).1⟩ else
 if(q.kind==5)=true then⟨[],0,decide (((B_ (meant q l) q.col).length:Int)>0),(Ns (B_ (meant q l) q.col)).2⟩ else⟨[],0,false,zeroV⟩
def GR (q:DQuery) (l:List DRow):Res:=if(q.kind==1)=true then .agg (answer q l).o else .val (.agg (answer q l).c)
theorem iO (q:DQuery) (l:List DRow):(meant q l).length≤l.length:=List.length_filter_le _ _
theorem MJ (q:DQuery) (l:List DRow) (h:Hw BI l):Hw BI (meant q l):=⟨Nat.le_trans (iO q l) h.1,fun x hx=>h.2 x (List.mem_filter.1 hx).1⟩
theorem YL {l:List DVal} {k:Nat} (h:k<l.length) (n:Int):(l.drop k).foldl (fun n v=>IntKind.i64.wrap (n+v.n)) n=(l.drop (k+1)).foldl (fun n v=>IntKind.i64.wrap (n+v.n)) (IntKind.i64.wrap (n+l[k].n)):=by
 rw[List.drop_eq_getElem_cons h,List.foldl_cons]
theorem YM (l:List DRow) (k:Int):(B_ l k).length≤l.length:=List.length_filterMap_le _ _
theorem WF (q:DQuery) (l:List DRow) (hq:Dy q) (hl:Hw BI l):Ctr Tryz.prog 90 [.agg q.c,.c (.sl (l.map DRow.c))] [GR q l]:=by
 have hqo:q.out.length≤1048576:=by rw[Ej] at hq; exact hq.2
 refine Ctr.mk Tryz.call90 Tryz.func90 rfl mixed Tryz.ntmps90 Tryz.results90 (by kernel_rfl) rfl fun hw=>?_
 have hm:=MJ q l hl
 have hvl:(B_ (meant q l) q.col).length≤1099511627776:=by have:=YM (meant q l) q.col; have:=hm.1; omega
 simp only[go_sem,List.length_map]
 refine CallK.mk _ (by simpa only[go_sem] using(YJ q l hq hl).valO (Bg _)) fun _=>?_
 simp only[go_sem,List.length_map]
 refine CallK.mk _ (by simpa only[go_sem] using(Oi (meant q l) q.col hm).val (AL DVal.pure)) fun _=>?_
 rcases k1:(q.kind==1) with _ | _
 ·have hr:GR q l = .val (.agg (answer q l).c):=by simp[GR,k1]
  rw[hr]
  rcases k2:(q.kind==2) with _ | _
  rotate_left
  ·have ha:answer q l=⟨[],(meant q l).length,false,zeroV⟩:=by simp[answer,k1,k2]
   simp only[go_sem,List.length_map,k1,k2,ha,zeroV]
   try simp
  rcases k3:(q.kind==3) with _ | _
  rotate_left
  ·have ha:answer q l=⟨[],aN (B_ (meant q l) q.col),false,zeroV⟩:=by simp[answer,k1,k2,k3]
   simp only[go_sem,List.length_map,k1,k2,k3,ha]
   refine LoopU.mk 3 (A:=Nat×Int) (fun x=>[(79,.c (.v (.int .i64 (x.1))))]) (fun x=>[⟨80,10,[Hu q],true,true⟩,⟨74,6,[IJ 0],true,true⟩,⟨74,6,[IJ x.2],true,true⟩]) (fun x=>x.1≤(B_ (meant q l) q.col).length∧((B_ (meant q l) q.col).drop x.1).foldl (fun n v=>IntKind.i64.wrap (n+v.n)) x.2=aN (B_ (meant q l) q.col)) (fun x=>(B_ (meant q l) q.col).length-x.1) (0,0) ⟨⟨rfl,rfl⟩,rfl,Nat.zero_le _,rfl⟩ ?_
   rintro⟨k,n⟩ ⟨hk,hb⟩
   dsimp only at hk hb
   simp only[go_sem,List.length_map]
   refine cndC.mk (fun h=>?_) (fun h=>?_)
   ·have hk':k<(B_ (meant q l) q.col).length:=by simpa using h
    rw[YL hk'] at hb
    simp only[go_sem,List.length_map,AA _ hk',hk',wrap_i64 (n:=(k:Int)+1) (by omega) (by omega)]
    exact⟨(k+1,_),⟨rfl,rfl⟩,rfl,⟨by omega,hb⟩,by simp only; omega⟩
   ·have hk':k=(B_ (meant q l) q.col).length:=by simp at h; omega
    subst hk'
    rw[List.drop_length] at hb
    have:n=aN (B_ (meant q l) q.col):=by simpa using hb
    subst this
    simp only[go_sem,zeroV]
    try simp
  rcases k4:(q.kind==4) with _ | _
  rotate_left
  ·have ha:answer q l=⟨[],0,decide (((B_ (meant q l) q.col).length:Int)>0),(Ns (B_ (meant q l) q.col)).1⟩:=by simp[answer,k1,k2,k3,k4]
   simp only[go_sem,List.length_map,k1,k2,k3,k4,ha]
   refine CallK.mk _ (by simpa only[go_sem] using TE (B_ (meant q l) q.col) hvl) fun _=>?_
   simp only[go_sem,List.length_map,k1,k2,k3,k4]
   try simp
  rcases k5:(q.kind==5) with _ | _
  rotate_left
  ·have ha:answer q l=⟨[],0,decide (((B_ (meant q l) q.col).length:Int)>0),(Ns (B_ (meant q l) q.col)).2⟩:=by simp[answer,k1,k2,k3,k4,k5]
   simp only[go_sem,List.length_map,k1,k2,k3,k4,k5,ha]
   refine CallK.mk _ (by simpa only[go_sem] using TE (B_ (meant q l) q.col) hvl) fun _=>?_
   simp only[go_sem,List.length_map,k1,k2,k3,k4,k5]
   try simp
  have ha:answer q l=⟨[],0,false,zeroV⟩:=by simp[answer,k1,k2,k3,k4,k5]
  simp only[go_sem,List.length_map,k1,k2,k3,k4,k5,ha,zeroV]
  try simp
 ·have hr:GR q l = .agg (answer q l).o:=by simp[GR,k1]
  have ha:answer q l=⟨(meant q l).map fun r=>LC r q.out,0,false,zeroV⟩:=by simp[answer,k1]
  rw[hr,ha]
  simp only[go_sem,List.length_map,k1]
  refine LoopH.mk [] (A:=Nat×List DRow) (fun x=>[(29,.c (.v (.int .i64 (x.1))))]) (fun x=>[⟨80,10,[Hu q],true,true⟩,⟨74,6,[IJ 0],true,true⟩,⟨74,6,[SE 3],true,true⟩,⟨121,2,x.2.map DRow.o,true,true⟩]) (fun x=>x.1≤(meant q l).length∧x.2.length=x.1∧x.2++(((meant q l).drop x.1).map fun r=>LC r q.out)=(meant q l).map fun r=>LC r q.out) (fun x=>(meant q l).length-x.1) (0,[]) (Head.trans (Head.nilR 2 0 121 2 ⟨74,6,[IJ 0],true,true⟩ (IJ 0) rfl rfl rfl) (Head.sel [(0,false),(1,true),(2,true),(3,false)] ⟨rfl,rfl,rfl,rfl,rfl,rfl,trivial⟩ rfl)) ⟨Nat.zero_le _,rfl,rfl⟩ ?_
  rintro⟨k,out⟩ ⟨hk,hol,hb⟩
  dsimp only at hk hol hb
  simp only[go_sem,List.length_map]
  refine cndC.mk (fun h=>?_) (fun h=>?_)
  ·have hk':k<(meant q l).length:=by simpa using h
   simp only[go_sem,List.length_map,AA _ hk',hk',Option.getD_some]
   refine LoopH.mk [] (A:=Nat×List DVal) (fun x=>[(39,.c (.v (.int .i64 (x.1))))]) (fun x=>[⟨80,10,[Hu q],true,true⟩,⟨74,6,[IJ 0],true,true⟩,⟨74,6,[SE 3],true,true⟩,⟨121,2,out.map DRow.o,true,true⟩,⟨121,2,[[.v (.int .i64 (meant q l)[k].id),.sl ((meant q l)[k].l.map DVal.c)]],true,true⟩,⟨121,2,[[.v (.int .i64 (meant q l)[k].id),.ref 6]],true,true⟩,⟨72,3,x.2.map DVal.c,true,true⟩]) (fun x=>x.1≤q.out.length∧x.2++NL (meant q l)[k] (q.out.drop x.1)=NL (meant q l)[k] q.out) (fun x=>q.out.length-x.1) (0,[]) (Head.trans (Head.nilR 5 1 72 3 ⟨121,2,[[.v (.int .i64 (meant q l)[k].id),.v (.slice none 0 0)]],true,true⟩ [.v (.int .i64 (meant q l)[k].id),.v (.slice none 0 0)] rfl rfl rfl) (Head.sel [(0,false),(1,true),(2,true),(3,true),(4,false),(5,true),(6,false)] ⟨rfl,rfl,rfl,rfl,rfl,Ef (AX _),rfl,rfl,rfl,trivial⟩ (by
    show (⟨111,_,[_,_,_,⟨121,2,(out.map DRow.o).map (fun x=>x.map (NQ [(0,false),(1,true),(2,true),(3,true),(4,false),(5,true),(6,false)])),true,true⟩,_,_,_]⟩:MS)=_
    rw[Ee (AX out)]; rfl))) ⟨Nat.zero_le _,rfl⟩ ?_
   ·rintro⟨m,ys⟩ ⟨hmk,hc⟩
    dsimp only at hmk hc
    have hyl:ys.length≤q.out.length:=by
     have h1:(NL (meant q l)[k] q.out).length≤q.out.length:=List.length_filterMap_le _ _
     rw[← hc] at h1
     simp at h1; omega
    simp only[go_sem,List.length_map]
    refine cndC.mk (fun h2=>?_) (fun h2=>?_)
    ·have hm':m<q.out.length:=by simpa using h2
     rw[VP hm'] at hc
     simp only[go_sem,List.length_map,AA _ hm',hm',Option.getD_some]
     by_cases hn:0≤q.out[m]∧q.out[m].toNat<(meant q l)[k].l.length
     ·rw[dif_pos hn] at hc
      obtain⟨j,hj0⟩:=Int.eq_ofNat_of_zero_le hn.1
      have hj:j<(meant q l)[k].l.length:=by have:=hn.2; rw[hj0] at this; simpa using this
      have hlj:(meant q l)[k].l[q.out[m].toNat]'hn.2=(meant q l)[k].l[j]:=by congr 1; rw[hj0]; rfl
      rw[hlj] at hc
      have e1:decide ((j:Int)≥0)=true:=by simp
      have e2:decide ((j:Int)<((meant q l)[k].l.length:Int))=true:=by simp; omega
      have hyl2:ys.length+1≤2147483648:=by omega
      simp only[go_sem,List.length_map,AA _ hm',AA _ hj,hj,hm',hj0,e1,e2,hyl2,Option.getD_some]
      refine DrawK.mkE ?_
      simp only[go_sem,List.all_cons,List.all_nil,List.length_map,AA _ hm',AA _ hj,hj,hm',hj0,e1,e2,hyl2,Option.getD_some,wrap_i64 (n:=(m:Int)+1) (by omega) (by omega)]
      refine⟨(m+1,ys ++ [(meant q l)[k].l[j]]),Head.sel [(0,false),(1,true),(2,true),(3,true),(4,false),(5,true),(8,false)] ⟨rfl,rfl,rfl,rfl,rfl,Ef (AX _),rfl,rfl,by rw[← Hz]; exact AL DVal.pure,trivial⟩ ?_,⟨hm',by rw[← hc,List.append_assoc]⟩,by simp only; omega⟩
      rw[← Hz]
      show (⟨111,_,[_,_,_,⟨121,2,(out.map DRow.o).map (fun x=>x.map (NQ [(0,false),(1,true),(2,true),(3,true),(4,false),(5,true),(8,false)])),true,true⟩,_,_,_]⟩:MS)=_
      rw[Ee (AX out)]
      rfl
     ·rw[dif_neg hn,List.nil_append] at hc
      have hd:(decide (q.out[m]≥0)&&decide (q.out[m]<((meant q l)[k].l.length:Int)))=false:=by
       rcases h1:decide (q.out[m]≥0) with _ | _
       ·rfl
       ·simp at h1 ⊢; have:¬ q.out[m].toNat<(meant q l)[k].l.length:=fun hh=>hn ⟨h1,hh⟩; omega
      rcases h1:decide (q.out[m]≥0) with _ | _
      ·simp only[go_sem,List.length_map,AA _ hm',hm',h1,wrap_i64 (n:=(m:Int)+1) (by omega) (by omega)]
       refine⟨(m+1,ys),Head.sel [(0,false),(1,true),(2,true),(3,true),(4,false),(5,true),(6,false)] ⟨rfl,rfl,rfl,rfl,rfl,Ef (AX _),rfl,rfl,AL DVal.pure,trivial⟩ ?_,⟨hm',hc⟩,by simp only; omega⟩
       show (⟨111,_,[_,_,_,⟨121,2,(out.map DRow.o).map (fun x=>x.map (NQ [(0,false),(1,true),(2,true),(3,true),(4,false),(5,true),(6,false)])),true,true⟩,_,_,_]⟩:MS)=_
       rw[Ee (AX out)]
       rfl
      ·have h2:decide (q.out[m]<((meant q l)[k].l.length:Int))=false:=by rw[h1,Bool.true_and] at hd; exact hd
       simp only[go_sem,List.length_map,AA _ hm',hm',h1,h2,wrap_i64 (n:=(m:Int)+1) (by omega) (by omega)]
       refine⟨(m+1,ys),Head.sel [(0,false),(1,true),(2,true),(3,true),(4,false),(5,true),(6,false)] ⟨rfl,rfl,rfl,rfl,rfl,Ef (AX _),rfl,rfl,AL DVal.pure,trivial⟩ ?_,⟨hm',hc⟩,by simp only; omega⟩
       show (⟨111,_,[_,_,_,⟨121,2,(out.map DRow.o).map (fun x=>x.map (NQ [(0,false),(1,true),(2,true),(3,true),(4,false),(5,true),(6,false)])),true,true⟩,_,_,_]⟩:MS)=_
       rw[Ee (AX out)]
       rfl
    ·have hm':m=q.out.length:=by simp at h2; omega
     subst hm'
     rw[List.drop_length] at hc
     have:ys=NL (meant q l)[k] q.out:=by simpa [NL] using hc
     subst this
     have hol2:out.length+1≤1099511627776:=by have:=hm.1; omega
     simp only[go_sem,List.all_cons,List.all_nil,List.length_map,PS,hol2,Bool.false_eq_true,Option.getD_some,wrap_i64 (n:=(k:Int)+1) (by omega) (by omega)]
     refine⟨(k+1,out ++ [LC (meant q l)[k] q.out]),Head.selAbs [(0,false),(1,true),(2,true),(8,true),(6,false)] 4 3 ⟨rfl,rfl,rfl,rfl,rfl,I4 DRow.o_nr _ out rfl,AL DVal.pure,trivial⟩ ⟨out.length,out.map DRow.o ++ [DRow.o (LC (meant q l)[k] q.out)],_,DRow.o (LC (meant q l)[k] q.out),_,⟨by decide,rfl,Iz DRow.o_nr _ out _ _,by simp,rfl⟩,
      ⟨rfl,rfl,rfl,rfl,rfl,rfl,Bl _,by simp[GI],fun l hl=>by simp[GI] at hl; omega⟩,⟨rfl, ?tr⟩, ?eq⟩,⟨hk',by simp[hol],by rw[← hb,List.drop_eq_getElem_cons hk',List.map_cons,List.append_assoc]; rfl⟩,by simp only; omega⟩
     case tr=>unfold BN; rw[CE]; exact AAj rfl rfl rfl (Ad (AX _))
     case eq=>unfold BN; rw[CE,List.map_append]; rfl
  ·have hk':k=(meant q l).length:=by simp at h; omega
   subst hk'
   rw[List.drop_length] at hb
   have:out=(meant q l).map fun r=>LC r q.out:=by simpa using hb
   subst this
   simp only[go_sem,AX]
   try simp[AU,AC,zeroV]
theorem WG (q:DQuery) (l:List DRow) (hq:Dy q) (hl:Hw BI l):Ctr Tryz.prog 88 [.agg q.c,.c (.sl (l.map DRow.c))] [GR q l]:=by
 have hqo:q.out.length≤1048576:=by rw[Ej] at hq; exact hq.2
 refine Ctr.mk Tryz.call88 Tryz.func88 rfl mixed Tryz.ntmps88 Tryz.results88 (by kernel_rfl) rfl fun hw=>?_
 have hm:=MJ q l hl
 have hvl:(B_ (meant q l) q.col).length≤1099511627776:=by have:=YM (meant q l) q.col; have:=hm.1; omega
 simp only[go_sem,List.length_map]
 refine CallK.mk _ (by simpa only[go_sem] using(YK q l hq hl).valO (Bg _)) fun _=>?_
 simp only[go_sem,List.length_map]
 refine CallK.mk _ (by simpa only[go_sem] using(WH (meant q l) q.col hm).val (AL DVal.pure)) fun _=>?_
 rcases k1:(q.kind==1) with _ | _
 ·have hr:GR q l = .val (.agg (answer q l).c):=by simp[GR,k1]
  rw[hr]
  rcases k2:(q.kind==2) with _ | _
  rotate_left
  ·have ha:answer q l=⟨[],(meant q l).length,false,zeroV⟩:=by simp[answer,k1,k2]
   simp only[go_sem,List.length_map,k1,k2,ha,zeroV]
   try simp
  rcases k3:(q.kind==3) with _ | _
  rotate_left
  ·have ha:answer q l=⟨[],aN (B_ (meant q l) q.col),false,zeroV⟩:=by simp[answer,k1,k2,k3]
   simp only[go_sem,List.length_map,k1,k2,k3,ha]
   refine LoopU.mk 3 (A:=Nat×Int) (fun x=>[(10,.c (.v (.int .i64 (x.1))))]) (fun x=>[⟨80,10,[Hu q],true,true⟩,⟨74,6,[IJ 0],true,true⟩,⟨74,6,[IJ x.2],true,true⟩]) (fun x=>x.1≤(B_ (meant q l) q.col).length∧((B_ (meant q l) q.col).drop x.1).foldl (fun n v=>IntKind.i64.wrap (n+v.n)) x.2=aN (B_ (meant q l) q.col)) (fun x=>(B_ (meant q l) q.col).length-x.1) (0,0) ⟨⟨rfl,rfl⟩,rfl,Nat.zero_le _,rfl⟩ ?_
   rintro⟨k,n⟩ ⟨hk,hb⟩
   dsimp only at hk hb
   simp only[go_sem,List.length_map]
   refine cndC.mk (fun h=>?_) (fun h=>?_)
   ·have hk':k<(B_ (meant q l) q.col).length:=by simpa using h
    rw[YL hk'] at hb
    simp only[go_sem,List.length_map,AA _ hk',hk',wrap_i64 (n:=(k:Int)+1) (by omega) (by omega)]
    try refine DrawK.mkE ?_
    try simp only[go_sem,List.length_map,AA _ hk',hk',wrap_i64 (n:=(k:Int)+1) (by omega) (by omega)]
    exact⟨(k+1,_),⟨rfl,rfl⟩,rfl,⟨by omega,hb⟩,by simp only; omega⟩
   ·have hk':k=(B_ (meant q l) q.col).length:=by simp at h; omega
    subst hk'
    rw[List.drop_length] at hb
    have:n=aN (B_ (meant q l) q.col):=by simpa using hb
    subst this
    simp only[go_sem,zeroV]
    try simp
  rcases k4:(q.kind==4) with _ | _
  rotate_left
  ·have ha:answer q l=⟨[],0,decide (((B_ (meant q l) q.col).length:Int)>0),(Ns (B_ (meant q l) q.col)).1⟩:=by simp[answer,k1,k2,k3,k4]
   simp only[go_sem,List.length_map,k1,k2,k3,k4,ha]
   refine CallK.mk _ (by simpa only[go_sem] using TD (B_ (meant q l) q.col) hvl) fun _=>?_
   simp only[go_sem,List.length_map,k1,k2,k3,k4]
   try simp
  rcases k5:(q.kind==5) with _ | _
  rotate_left
  ·have ha:answer q l=⟨[],0,decide (((B_ (meant q l) q.col).length:Int)>0),(Ns (B_ (meant q l) q.col)).2⟩:=by simp[answer,k1,k2,k3,k4,k5]
   simp only[go_sem,List.length_map,k1,k2,k3,k4,k5,ha]
   refine CallK.mk _ (by simpa only[go_sem] using TD (B_ (meant q l) q.col) hvl) fun _=>?_
   simp only[go_sem,List.length_map,k1,k2,k3,k4,k5]
   try simp
  have ha:answer q l=⟨[],0,false,zeroV⟩:=by simp[answer,k1,k2,k3,k4,k5]
  simp only[go_sem,List.length_map,k1,k2,k3,k4,k5,ha,zeroV]
  try simp
 ·have hr:GR q l = .agg (answer q l).o:=by simp[GR,k1]
  have ha:answer q l=⟨(meant q l).map fun r=>LC r q.out,0,false,zeroV⟩:=by simp[answer,k1]
  rw[hr,ha]
  simp only[go_sem,List.length_map,k1]
  refine LoopH.mk [] (A:=Nat×List DRow) (fun x=>[(8,.c (.v (.int .i64 (x.1))))]) (fun x=>[⟨80,10,[Hu q],true,true⟩,⟨74,6,[IJ 0],true,true⟩,⟨74,6,[SE 3],true,true⟩,⟨121,2,x.2.map DRow.o,true,true⟩]) (fun x=>x.1≤(meant q l).length∧x.2.length=x.1∧x.2++(((meant q l).drop x.1).map fun r=>LC r q.out)=(meant q l).map fun r=>LC r q.out) (fun x=>(meant q l).length-x.1) (0,[]) (Head.trans (Head.nilR 2 0 121 2 ⟨74,6,[IJ 0],true,true⟩ (IJ 0) rfl rfl rfl) (Head.sel [(0,false),(1,true),(2,true),(3,false)] ⟨rfl,rfl,rfl,rfl,rfl,rfl,trivial⟩ rfl)) ⟨Nat.zero_le _,rfl,rfl⟩ ?_
  rintro⟨k,out⟩ ⟨hk,hol,hb⟩
  dsimp only at hk hol hb
  simp only[go_sem,List.length_map]
  refine cndC.mk (fun h=>?_) (fun h=>?_)
  ·have hk':k<(meant q l).length:=by simpa using h
   have hrl:=hm.2 _ (List.getElem_mem hk')
   rw[Bf] at hrl
   have hol2:out.length+1≤1099511627776:=by have:=hm.1; omega
   simp only[go_sem,List.length_map,AA _ hk',hk',Option.getD_some]
   refine DrawK.mkA 7 6 (by kernel_rfl) ?_
   simp only[go_sem,List.length_map,AA _ hk',hk',Option.getD_some]
   refine CallE.mk _ (by simpa only[go_sem] using iM (meant q l)[k] q.out hrl.1 hqo) ?_
   simp only[go_sem,List.all_cons,List.all_nil,List.length_map,AA _ hk',hk',PS,Bl,hol2,Bool.false_eq_true,Option.getD_some,wrap_i64 (n:=(k:Int)+1) (by omega) (by omega)]
   refine⟨(k+1,out ++ [LC (meant q l)[k] q.out]),Head.selAbs [(0,false),(1,true),(2,true),(7,true),(4,false)] 4 3 ⟨rfl,rfl,rfl,rfl,rfl,I4 DRow.o_nr _ out rfl,AL DVal.pure,trivial⟩ ⟨out.length,out.map DRow.o ++ [DRow.o (LC (meant q l)[k] q.out)],_,DRow.o (LC (meant q l)[k] q.out),_,⟨by decide,rfl,Iz DRow.o_nr _ out _ _,by simp,rfl⟩,
    ⟨rfl,rfl,rfl,rfl,rfl,rfl,Bl _,by simp[GI],fun l hl=>by simp[GI] at hl; omega⟩,⟨rfl, ?tr⟩, ?eq⟩,⟨hk',by simp[hol],by rw[← hb,List.drop_eq_getElem_cons hk',List.map_cons,List.append_assoc]; rfl⟩,by simp only; omega⟩
   case tr=>unfold BN; rw[CE]; exact AAj rfl rfl rfl (Ad (AX _))
   case eq=>unfold BN; rw[CE,List.map_append]; rfl
  ·have hk':k=(meant q l).length:=by simp at h; omega
   subst hk'
   rw[List.drop_length] at hb
   have:out=(meant q l).map fun r=>LC r q.out:=by simpa using hb
   subst this
   simp only[go_sem,AX]
   try simp[AU,AC,zeroV]
end Go.Proofs.YthoeeoddgkjkkaaGreat
