/- A part. -/
import Derived.Test.YtgkmefoghbjfnaaGreatAh
import Derived.Test.YtgkmefoghbjfnaaGreatAb
import Derived.Test.YtgkmefoghbjfnaaGreatIa
set_option linter.unusedSimpArgs false
set_option linter.unusedVariables false
set_option maxHeartbeats 4000000
set_option maxRecDepth 10000
open Go.Proofs.Tryz
namespace Go.Proofs.YtgkmefoghbjfnaaGreat
open Go.Vm
def LP (r:DRow) (cols:List Int):List DVal:=cols.filterMap fun k=>if 0≤k then r.l[k.toNat]? else none
def JU (r:DRow) (cols:List Int):DRow:=⟨r.id,LP r cols⟩
theorem TU {r:DRow} {cols:List Int} {k:Nat} (h:k<cols.length):LP r (cols.drop k)=(if h2:0≤cols[k]∧cols[k].toNat<r.l.length then [r.l[cols[k].toNat]'h2.2] else [])++LP r (cols.drop (k+1)):=by
 unfold LP
 rw[aF h,List.filterMap_cons]
 by_cases h1:0≤cols[k]
 ·by_cases h2:cols[k].toNat<r.l.length
  ·simp[h1,h2]
  ·simp[h1,h2]
 ·simp[h1]
theorem eX (r:DRow) (cols:List Int) (hr:r.l.length≤1048576) (hc:cols.length≤1048576):Ctr prog 164 [.agg r.c,.c (.sl (cols.map intC))] [.agg (JU r cols).o]:=by
 refine CM call164 func164 ntmps164 results164 fun hw=>?_
 simp only[go_sem,ae]
 refine LoopH.mk [9,10] (A:=Nat×List DVal) (fun x=>[(6,.c (.v (.int .i64 (x.1))))]) (fun x=>[⟨147,2,[[.v (.int .i64 r.id),.sl (r.l.map DVal.c)]],true,true⟩,⟨147,2,[Jk],true,true⟩,⟨75,3,x.2.map DVal.c,true,true⟩,⟨147,2,[[.v (.int .i64 r.id),.ref 2]],true,true⟩]) (fun x=>x.1≤cols.length∧x.2++LP r (cols.drop x.1)=LP r cols) (fun x=>cols.length-x.1) (0,[]) (Head.sel [(0,false),(1,true),(2,false),(3,true)] ⟨rfl,rfl,rfl,rfl,rfl,rfl,trivial⟩ rfl) ⟨aJ _,rfl⟩ ?_
 rintro⟨k,out⟩ ⟨hk,hb⟩
 dsimp only at hk hb
 have hol:out.length≤cols.length:=by
  have h1:(LP r cols).length≤cols.length:=mQ _ _
  rw[← hb] at h1
  simp at h1; omega
 simp only[go_sem,ae,Jk]
 refine cndC.mk (fun h=>?_) (fun h=>?_)
 ·have hk':k<cols.length:=by simpa using h
  rw[TU hk'] at hb
  simp only[go_sem,ae,AA _ hk',hk',ay]
  refine DrawK.mk ?_
  simp only[go_sem,ae,AA _ hk',hk',ay]
  refine CallF.mk _ (BB cols[k] 0 _) ?_
  rw[wrap_i64 (n:=(r.l.length:Int)-1) (by omega) (by omega)]
  by_cases hn:0≤cols[k]∧cols[k].toNat<r.l.length
  ·rw[dif_pos hn] at hb
   obtain⟨m,hm0⟩:=sQ hn.1
   have hm:m<r.l.length:=by have:=hn.2; rw[hm0] at this; simpa using this
   have hlm:r.l[cols[k].toNat]'hn.2=r.l[m]:=by congr 1; rw[hm0]; rfl
   rw[hlm] at hb
   have e1:Ce (m:Int) 0 ((r.l.length:Int)-1)=true:=by simp[Ce]; omega
   have hol2:out.length+1≤2147483648:=by omega
   simp only[go_sem,ae,AA _ hk',AA _ hm,hk',hm,hm0,e1,hol2,ay]
   refine DrawK.mkE ?_
   simp only[go_sem,aS,aZ,ae,AA _ hk',AA _ hm,hk',hm,hm0,e1,hol2,ay,wrap_i64 (n:=(k:Int)+1) (by omega) (by omega)]
   exact⟨(k+1,out ++ [r.l[m]]),Head.sel [(0,false),(1,true),(5,false),(3,true)] ⟨rfl,rfl,rfl,rfl,by rw[← GN]; exact AP DVal.pure,rfl,trivial⟩ (by rw[← GN]; rfl),⟨hk',by rw[← hb,aY]⟩,by simp only; omega⟩
  ·rw[dif_neg hn,bP] at hb
   have e1:Ce cols[k] 0 ((r.l.length:Int)-1)=false:=by simp[Ce]; intro h1; have:¬ cols[k].toNat<r.l.length:=fun hh=>hn ⟨h1,hh⟩; omega
   simp only[go_sem,ae,AA _ hk',hk',e1,wrap_i64 (n:=(k:Int)+1) (by omega) (by omega)]
   exact⟨(k+1,out),Head.sel [(0,false),(1,true),(2,false),(3,true)] ⟨rfl,rfl,rfl,rfl,AP DVal.pure,rfl,trivial⟩ rfl,⟨hk',hb⟩,by simp only; omega⟩
 ·have hk':k=cols.length:=by simp at h; omega
  subst hk'
  rw[aP] at hb
  have:out=LP r cols:=by simpa [LP] using hb
  subst this
  simp only[go_sem,JU,BP]
  try simp[Ac,AO]
theorem qW {N:Nat} {a b c d:Ob} (ha:BQ N a=true) (hb:BQ N b=true) (hc:BQ N c=true) (hd:BQ N d=true) : [a,b,c,d].all (BQ N)=true:=by simp[ha,hb,hc,hd]
def Gx (n:Int):List Cl:=[.v (.slice none 0 0),.v (.int .i64 n),.v (.bool false),.v (.int .i64 0),.v (.int .i64 0),.v (.string ByteArray.empty)]
@[go_sem] theorem ry (n:Int):Gx n = [.v (.slice none 0 0),.v (.int .i64 n),.v (.bool false),.v (.int .i64 0),.v (.int .i64 0),.v (.string ByteArray.empty)]:=rfl
def QO (l:Nat):List Cl:=[.ref l,.v (.int .i64 0),.v (.bool false),.v (.int .i64 0),.v (.int .i64 0),.v (.string ByteArray.empty)]
@[go_sem] theorem qX (l:Nat):QO l = [.ref l,.v (.int .i64 0),.v (.bool false),.v (.int .i64 0),.v (.int .i64 0),.v (.string ByteArray.empty)]:=rfl
def Yh (l:List DVal):Int:=l.foldl (fun n v=>IntKind.i64.wrap (n+v.n)) 0
def answer (q:DQuery) (l:List DRow):DResult:=
 if(q.kind==1)=true then⟨(meant q l).map fun r=>JU r q.out,0,false,zeroV⟩ else
 if(q.kind==2)=true then⟨[],(meant q l).length,false,zeroV⟩ else
 if(q.kind==3)=true then⟨[],Yh (Cb (meant q l) q.col),false,zeroV⟩ else
 if(q.kind==4)=true then⟨[],0,decide (((Cb (meant q l) q.col).length:Int)>0),(Lr (Cb (meant q l) q.col)).1⟩ else
 if(q.kind==5)=true then⟨[],0,decide (((Cb (meant q l) q.col).length:Int)>0),(Lr (Cb (meant q l) q.col)).2⟩ else⟨[],0,false,zeroV⟩
def F5 (q:DQuery) (l:List DRow):Res:=if(q.kind==1)=true then .agg (answer q l).o else .val (.agg (answer q l).c)
theorem Yi (q:DQuery) (l:List DRow) : [F5 q l].map S9 = [.val (.agg (answer q l).c)]:=by
 unfold F5
 split
 ·simp only[U9,lF,S9,DResult.o_er]
 ·rfl
theorem TV (q:DQuery) (l:List DRow):(meant q l).length≤l.length:=sS _ _
theorem TW (q:DQuery) (l:List DRow) (h:Lu Ah l):Lu Ah (meant q l):=⟨ZW (TV q l) h.1,fun x hx=>h.2 x (List.mem_filter.1 hx).1⟩
theorem XO {l:List DVal} {k:Nat} (h:k<l.length) (n:Int):(l.drop k).foldl (fun n v=>IntKind.i64.wrap (n+v.n)) n=(l.drop (k+1)).foldl (fun n v=>IntKind.i64.wrap (n+v.n)) (IntKind.i64.wrap (n+l[k].n)):=by
 rw[aF h,List.foldl_cons]
theorem XP (l:List DRow) (k:Int):(Cb l k).length≤l.length:=mQ _ _
theorem Nw (q:DQuery) (l:List DRow) (hq:DW q) (hl:Lu Ah l):Ctr prog 113 [.agg q.c,.c (.sl (l.map DRow.c))] [F5 q l]:=by
 have hqo:q.out.length≤1048576:=by rw[DX] at hq; exact hq.2
 refine CM call113 func113 ntmps113 results113 fun hw=>?_
 have hm:=TW q l hl
 have hvl:(Cb (meant q l) q.col).length≤1099511627776:=by have:=XP (meant q l) q.col; have:=hm.1; omega
 simp only[go_sem,ae]
 refine CallK.mk _ (by simpa only[go_sem] using(Vp q l hq hl).valO (Ej _)) fun _=>?_
 simp only[go_sem,ae]
 refine CW ((UF (meant q l) q.col hm).val (AP DVal.pure)) fun _=>?_
 rcases k1:(q.kind==1) with _ | _
 ·have hr:F5 q l = .val (.agg (answer q l).c):=by simp[F5,k1]
  rw[hr]
  rcases k2:(q.kind==2) with _ | _
  rotate_left
  ·have ha:answer q l=⟨[],(meant q l).length,false,zeroV⟩:=by simp[answer,k1,k2]
   simp only[go_sem,ae,k1,k2,ha,zeroV]
   try simp
  rcases k3:(q.kind==3) with _ | _
  rotate_left
  ·have ha:answer q l=⟨[],Yh (Cb (meant q l) q.col),false,zeroV⟩:=by simp[answer,k1,k2,k3]
   simp only[go_sem,ae,k1,k2,k3,ha]
   refine LoopU.mk 3 (A:=Nat×Int) (fun x=>[(79,.c (.v (.int .i64 (x.1))))]) (fun x=>[⟨80,10,[GV q],true,true⟩,⟨82,6,[Gx 0],true,true⟩,⟨82,6,[Gx x.2],true,true⟩]) (fun x=>x.1≤(Cb (meant q l) q.col).length∧((Cb (meant q l) q.col).drop x.1).foldl (fun n v=>IntKind.i64.wrap (n+v.n)) x.2=Yh (Cb (meant q l) q.col)) (fun x=>(Cb (meant q l) q.col).length-x.1) (0,0) ⟨⟨rfl,rfl⟩,rfl,aJ _,rfl⟩ ?_
   rintro⟨k,n⟩ ⟨hk,hb⟩
   dsimp only at hk hb
   simp only[go_sem,ae]
   refine cndC.mk (fun h=>?_) (fun h=>?_)
   ·have hk':k<(Cb (meant q l) q.col).length:=by simpa using h
    rw[XO hk'] at hb
    simp only[go_sem,ae,AA _ hk',hk',wrap_i64 (n:=(k:Int)+1) (by omega) (by omega)]
    exact⟨(k+1,_),⟨rfl,rfl⟩,rfl,⟨by omega,hb⟩,by simp only; omega⟩
   ·have hk':k=(Cb (meant q l) q.col).length:=by simp at h; omega
    subst hk'
    rw[aP] at hb
    have:n=Yh (Cb (meant q l) q.col):=by simpa using hb
    subst this
    simp only[go_sem,zeroV]
    try simp
  rcases k4:(q.kind==4) with _ | _
  rotate_left
  ·have ha:answer q l=⟨[],0,decide (((Cb (meant q l) q.col).length:Int)>0),(Lr (Cb (meant q l) q.col)).1⟩:=by simp[answer,k1,k2,k3,k4]
   simp only[go_sem,ae,k1,k2,k3,k4,ha]
   refine CW (QZ (Cb (meant q l) q.col) hvl) fun _=>?_
   simp only[go_sem,ae,k1,k2,k3,k4]
   try simp
  rcases k5:(q.kind==5) with _ | _
  rotate_left
  ·have ha:answer q l=⟨[],0,decide (((Cb (meant q l) q.col).length:Int)>0),(Lr (Cb (meant q l) q.col)).2⟩:=by simp[answer,k1,k2,k3,k4,k5]
   simp only[go_sem,ae,k1,k2,k3,k4,k5,ha]
   refine CW (QZ (Cb (meant q l) q.col) hvl) fun _=>?_
   simp only[go_sem,ae,k1,k2,k3,k4,k5]
   try simp
  have ha:answer q l=⟨[],0,false,zeroV⟩:=by simp[answer,k1,k2,k3,k4,k5]
  simp only[go_sem,ae,k1,k2,k3,k4,k5,ha,zeroV]
  try simp
 ·have hr:F5 q l = .agg (answer q l).o:=by simp[F5,k1]
  have ha:answer q l=⟨(meant q l).map fun r=>JU r q.out,0,false,zeroV⟩:=by simp[answer,k1]
  rw[hr,ha]
  simp only[go_sem,ae,k1]
  refine LoopH.mk [] (A:=Nat×List DRow) (fun x=>[(29,.c (.v (.int .i64 (x.1))))]) (fun x=>[⟨80,10,[GV q],true,true⟩,⟨82,6,[Gx 0],true,true⟩,⟨82,6,[QO 3],true,true⟩,⟨147,2,x.2.map DRow.o,true,true⟩]) (fun x=>x.1≤(meant q l).length∧x.2.length=x.1∧x.2++(((meant q l).drop x.1).map fun r=>JU r q.out)=(meant q l).map fun r=>JU r q.out) (fun x=>(meant q l).length-x.1) (0,[]) (Head.trans (Head.nilR 2 0 147 2 ⟨82,6,[Gx 0],true,true⟩ (Gx 0) rfl rfl rfl) (Head.sel [(0,false),(1,true),(2,true),(3,false)] ⟨rfl,rfl,rfl,rfl,rfl,rfl,trivial⟩ rfl)) ⟨aJ _,rfl,rfl⟩ ?_
  rintro⟨k,out⟩ ⟨hk,hol,hb⟩
  dsimp only at hk hol hb
  simp only[go_sem,ae]
  refine cndC.mk (fun h=>?_) (fun h=>?_)
  ·have hk':k<(meant q l).length:=by simpa using h
   simp only[go_sem,ae,AA _ hk',hk',ay]
   refine LoopH.mk [] (A:=Nat×List DVal) (fun x=>[(39,.c (.v (.int .i64 (x.1))))]) (fun x=>[⟨80,10,[GV q],true,true⟩,⟨82,6,[Gx 0],true,true⟩,⟨82,6,[QO 3],true,true⟩,⟨147,2,out.map DRow.o,true,true⟩,⟨147,2,[[.v (.int .i64 (meant q l)[k].id),.sl ((meant q l)[k].l.map DVal.c)]],true,true⟩,⟨147,2,[[.v (.int .i64 (meant q l)[k].id),.ref 6]],true,true⟩,⟨75,3,x.2.map DVal.c,true,true⟩]) (fun x=>x.1≤q.out.length∧x.2++LP (meant q l)[k] (q.out.drop x.1)=LP (meant q l)[k] q.out) (fun x=>q.out.length-x.1) (0,[]) (Head.trans (Head.nilR 5 1 75 3 ⟨147,2,[[.v (.int .i64 (meant q l)[k].id),.v (.slice none 0 0)]],true,true⟩ [.v (.int .i64 (meant q l)[k].id),.v (.slice none 0 0)] rfl rfl rfl) (Head.sel [(0,false),(1,true),(2,true),(3,true),(4,false),(5,true),(6,false)] ⟨rfl,rfl,rfl,rfl,rfl,Fb (AL _),rfl,rfl,rfl,trivial⟩ (by
    show (⟨111,_,[_,_,_,⟨147,2,(out.map DRow.o).map (fun x=>x.map (P9 [(0,false),(1,true),(2,true),(3,true),(4,false),(5,true),(6,false)])),true,true⟩,_,_,_]⟩:MS)=_
    rw[Fa (AL out)]; rfl))) ⟨aJ _,rfl⟩ ?_
   ·rintro⟨m,ys⟩ ⟨hmk,hc⟩
    dsimp only at hmk hc
    have hyl:ys.length≤q.out.length:=by
     have h1:(LP (meant q l)[k] q.out).length≤q.out.length:=mQ _ _
     rw[← hc] at h1
     simp at h1; omega
    simp only[go_sem,ae]
    refine cndC.mk (fun h2=>?_) (fun h2=>?_)
    ·have hm':m<q.out.length:=by simpa using h2
     rw[TU hm'] at hc
     simp only[go_sem,ae,AA _ hm',hm',ay]
     by_cases hn:0≤q.out[m]∧q.out[m].toNat<(meant q l)[k].l.length
     ·rw[dif_pos hn] at hc
      obtain⟨j,hj0⟩:=sQ hn.1
      have hj:j<(meant q l)[k].l.length:=by have:=hn.2; rw[hj0] at this; simpa using this
      have hlj:(meant q l)[k].l[q.out[m].toNat]'hn.2=(meant q l)[k].l[j]:=by congr 1; rw[hj0]; rfl
      rw[hlj] at hc
      have e1:decide ((j:Int)≥0)=true:=by simp
      have e2:decide ((j:Int)<((meant q l)[k].l.length:Int))=true:=by simp; omega
      have hyl2:ys.length+1≤2147483648:=by omega
      simp only[go_sem,ae,AA _ hm',AA _ hj,hj,hm',hj0,e1,e2,hyl2,ay]
      refine DrawK.mkE ?_
      simp only[go_sem,aS,aZ,ae,AA _ hm',AA _ hj,hj,hm',hj0,e1,e2,hyl2,ay,wrap_i64 (n:=(m:Int)+1) (by omega) (by omega)]
      refine⟨(m+1,ys ++ [(meant q l)[k].l[j]]),Head.sel [(0,false),(1,true),(2,true),(3,true),(4,false),(5,true),(8,false)] ⟨rfl,rfl,rfl,rfl,rfl,Fb (AL _),rfl,rfl,by rw[← GN]; exact AP DVal.pure,trivial⟩ ?_,⟨hm',by rw[← hc,aY]⟩,by simp only; omega⟩
      rw[← GN]
      show (⟨111,_,[_,_,_,⟨147,2,(out.map DRow.o).map (fun x=>x.map (P9 [(0,false),(1,true),(2,true),(3,true),(4,false),(5,true),(8,false)])),true,true⟩,_,_,_]⟩:MS)=_
      rw[Fa (AL out)]
      rfl
     ·rw[dif_neg hn,bP] at hc
      have hd:(decide (q.out[m]≥0)&&decide (q.out[m]<((meant q l)[k].l.length:Int)))=false:=by
       rcases h1:decide (q.out[m]≥0) with _ | _
       ·rfl
       ·simp at h1 ⊢; have:¬ q.out[m].toNat<(meant q l)[k].l.length:=fun hh=>hn ⟨h1,hh⟩; omega
      rcases h1:decide (q.out[m]≥0) with _ | _
      ·simp only[go_sem,ae,AA _ hm',hm',h1,wrap_i64 (n:=(m:Int)+1) (by omega) (by omega)]
       refine⟨(m+1,ys),Head.sel [(0,false),(1,true),(2,true),(3,true),(4,false),(5,true),(6,false)] ⟨rfl,rfl,rfl,rfl,rfl,Fb (AL _),rfl,rfl,AP DVal.pure,trivial⟩ ?_,⟨hm',hc⟩,by simp only; omega⟩
       show (⟨111,_,[_,_,_,⟨147,2,(out.map DRow.o).map (fun x=>x.map (P9 [(0,false),(1,true),(2,true),(3,true),(4,false),(5,true),(6,false)])),true,true⟩,_,_,_]⟩:MS)=_
       rw[Fa (AL out)]
       rfl
      ·have h2:decide (q.out[m]<((meant q l)[k].l.length:Int))=false:=by rw[h1,aU] at hd; exact hd
       simp only[go_sem,ae,AA _ hm',hm',h1,h2,wrap_i64 (n:=(m:Int)+1) (by omega) (by omega)]
       refine⟨(m+1,ys),Head.sel [(0,false),(1,true),(2,true),(3,true),(4,false),(5,true),(6,false)] ⟨rfl,rfl,rfl,rfl,rfl,Fb (AL _),rfl,rfl,AP DVal.pure,trivial⟩ ?_,⟨hm',hc⟩,by simp only; omega⟩
       show (⟨111,_,[_,_,_,⟨147,2,(out.map DRow.o).map (fun x=>x.map (P9 [(0,false),(1,true),(2,true),(3,true),(4,false),(5,true),(6,false)])),true,true⟩,_,_,_]⟩:MS)=_
       rw[Fa (AL out)]
       rfl
    ·have hm':m=q.out.length:=by simp at h2; omega
     subst hm'
     rw[aP] at hc
     have:ys=LP (meant q l)[k] q.out:=by simpa [LP] using hc
     subst this
     have hol2:out.length+1≤1099511627776:=by have:=hm.1; omega
     simp only[go_sem,aS,aZ,ae,Em,hol2,aN,ay,wrap_i64 (n:=(k:Int)+1) (by omega) (by omega)]
     refine⟨(k+1,out ++ [JU (meant q l)[k] q.out]),Head.selAbs [(0,false),(1,true),(2,true),(8,true),(6,false)] 4 3 ⟨rfl,rfl,rfl,rfl,rfl,IE DRow.o_nr _ out rfl,AP DVal.pure,trivial⟩ ⟨out.length,out.map DRow.o ++ [DRow.o (JU (meant q l)[k] q.out)],_,DRow.o (JU (meant q l)[k] q.out),_,⟨by decide,rfl,IC DRow.o_nr _ out _ _,by simp,rfl⟩,
      ⟨rfl,rfl,rfl,rfl,rfl,rfl,BP _,by simp[EL],fun l hl=>by simp[EL] at hl; omega⟩,⟨rfl, ?tr⟩, ?eq⟩,⟨hk',by simp[hol],by rw[← hb,aF hk',U9,aY]; rfl⟩,by simp only; omega⟩
     case tr=>unfold Am; rw[Bg]; exact qW rfl rfl rfl (CB (AL _))
     case eq=>unfold Am; rw[Bg,Yk]; rfl
  ·have hk':k=(meant q l).length:=by simp at h; omega
   subst hk'
   rw[aP] at hb
   have:out=(meant q l).map fun r=>JU r q.out:=by simpa using hb
   subst this
   simp only[go_sem,AL]
   try simp[Ac,AO,zeroV]
theorem U4 (q:DQuery) (l:List DRow) (hq:DW q) (hl:Lu Ah l):Ctr prog 134 [.agg q.c,.c (.sl (l.map DRow.c))] [F5 q l]:=by
 have hqo:q.out.length≤1048576:=by rw[DX] at hq; exact hq.2
 refine CM call134 func134 ntmps134 results134 fun hw=>?_
 have hm:=TW q l hl
 have hvl:(Cb (meant q l) q.col).length≤1099511627776:=by have:=XP (meant q l) q.col; have:=hm.1; omega
 simp only[go_sem,ae]
 refine CallK.mk _ (by simpa only[go_sem] using(Vq q l hq hl).valO (Ej _)) fun _=>?_
 simp only[go_sem,ae]
 refine CW ((UG (meant q l) q.col hm).val (AP DVal.pure)) fun _=>?_
 rcases k1:(q.kind==1) with _ | _
 ·have hr:F5 q l = .val (.agg (answer q l).c):=by simp[F5,k1]
  rw[hr]
  rcases k2:(q.kind==2) with _ | _
  rotate_left
  ·have ha:answer q l=⟨[],(meant q l).length,false,zeroV⟩:=by simp[answer,k1,k2]
   simp only[go_sem,ae,k1,k2,ha,zeroV]
   try simp
  rcases k3:(q.kind==3) with _ | _
  rotate_left
  ·have ha:answer q l=⟨[],Yh (Cb (meant q l) q.col),false,zeroV⟩:=by simp[answer,k1,k2,k3]
   simp only[go_sem,ae,k1,k2,k3,ha]
   refine LoopU.mk 3 (A:=Nat×Int) (fun x=>[(10,.c (.v (.int .i64 (x.1))))]) (fun x=>[⟨80,10,[GV q],true,true⟩,⟨82,6,[Gx 0],true,true⟩,⟨82,6,[Gx x.2],true,true⟩]) (fun x=>x.1≤(Cb (meant q l) q.col).length∧((Cb (meant q l) q.col).drop x.1).foldl (fun n v=>IntKind.i64.wrap (n+v.n)) x.2=Yh (Cb (meant q l) q.col)) (fun x=>(Cb (meant q l) q.col).length-x.1) (0,0) ⟨⟨rfl,rfl⟩,rfl,aJ _,rfl⟩ ?_
   rintro⟨k,n⟩ ⟨hk,hb⟩
   dsimp only at hk hb
   simp only[go_sem,ae]
   refine cndC.mk (fun h=>?_) (fun h=>?_)
   ·have hk':k<(Cb (meant q l) q.col).length:=by simpa using h
    rw[XO hk'] at hb
    simp only[go_sem,ae,AA _ hk',hk',wrap_i64 (n:=(k:Int)+1) (by omega) (by omega)]
    try refine DrawK.mkE ?_
    try simp only[go_sem,ae,AA _ hk',hk',wrap_i64 (n:=(k:Int)+1) (by omega) (by omega)]
    exact⟨(k+1,_),⟨rfl,rfl⟩,rfl,⟨by omega,hb⟩,by simp only; omega⟩
   ·have hk':k=(Cb (meant q l) q.col).length:=by simp at h; omega
    subst hk'
    rw[aP] at hb
    have:n=Yh (Cb (meant q l) q.col):=by simpa using hb
    subst this
    simp only[go_sem,zeroV]
    try simp
  rcases k4:(q.kind==4) with _ | _
  rotate_left
  ·have ha:answer q l=⟨[],0,decide (((Cb (meant q l) q.col).length:Int)>0),(Lr (Cb (meant q l) q.col)).1⟩:=by simp[answer,k1,k2,k3,k4]
   simp only[go_sem,ae,k1,k2,k3,k4,ha]
   refine CW (QY (Cb (meant q l) q.col) hvl) fun _=>?_
   simp only[go_sem,ae,k1,k2,k3,k4]
   try simp
  rcases k5:(q.kind==5) with _ | _
  rotate_left
  ·have ha:answer q l=⟨[],0,decide (((Cb (meant q l) q.col).length:Int)>0),(Lr (Cb (meant q l) q.col)).2⟩:=by simp[answer,k1,k2,k3,k4,k5]
   simp only[go_sem,ae,k1,k2,k3,k4,k5,ha]
   refine CW (QY (Cb (meant q l) q.col) hvl) fun _=>?_
   simp only[go_sem,ae,k1,k2,k3,k4,k5]
   try simp
  have ha:answer q l=⟨[],0,false,zeroV⟩:=by simp[answer,k1,k2,k3,k4,k5]
  simp only[go_sem,ae,k1,k2,k3,k4,k5,ha,zeroV]
  try simp
 ·have hr:F5 q l = .agg (answer q l).o:=by simp[F5,k1]
  have ha:answer q l=⟨(meant q l).map fun r=>JU r q.out,0,false,zeroV⟩:=by simp[answer,k1]
  rw[hr,ha]
  simp only[go_sem,ae,k1]
  refine LoopH.mk [] (A:=Nat×List DRow) (fun x=>[(8,.c (.v (.int .i64 (x.1))))]) (fun x=>[⟨80,10,[GV q],true,true⟩,⟨82,6,[Gx 0],true,true⟩,⟨82,6,[QO 3],true,true⟩,⟨147,2,x.2.map DRow.o,true,true⟩]) (fun x=>x.1≤(meant q l).length∧x.2.length=x.1∧x.2++(((meant q l).drop x.1).map fun r=>JU r q.out)=(meant q l).map fun r=>JU r q.out) (fun x=>(meant q l).length-x.1) (0,[]) (Head.trans (Head.nilR 2 0 147 2 ⟨82,6,[Gx 0],true,true⟩ (Gx 0) rfl rfl rfl) (Head.sel [(0,false),(1,true),(2,true),(3,false)] ⟨rfl,rfl,rfl,rfl,rfl,rfl,trivial⟩ rfl)) ⟨aJ _,rfl,rfl⟩ ?_
  rintro⟨k,out⟩ ⟨hk,hol,hb⟩
  dsimp only at hk hol hb
  simp only[go_sem,ae]
  refine cndC.mk (fun h=>?_) (fun h=>?_)
  ·have hk':k<(meant q l).length:=by simpa using h
   have hrl:=hm.2 _ (au hk')
   rw[Bc] at hrl
   have hol2:out.length+1≤1099511627776:=by have:=hm.1; omega
   simp only[go_sem,ae,AA _ hk',hk',ay]
   refine DrawK.mkA 7 6 (by kernel_rfl) ?_
   simp only[go_sem,ae,AA _ hk',hk',ay]
   refine CZ (eX (meant q l)[k] q.out hrl.1 hqo) ?_
   simp only[go_sem,aS,aZ,ae,AA _ hk',hk',Em,BP,hol2,aN,ay,wrap_i64 (n:=(k:Int)+1) (by omega) (by omega)]
   refine⟨(k+1,out ++ [JU (meant q l)[k] q.out]),Head.selAbs [(0,false),(1,true),(2,true),(7,true),(4,false)] 4 3 ⟨rfl,rfl,rfl,rfl,rfl,IE DRow.o_nr _ out rfl,AP DVal.pure,trivial⟩ ⟨out.length,out.map DRow.o ++ [DRow.o (JU (meant q l)[k] q.out)],_,DRow.o (JU (meant q l)[k] q.out),_,⟨by decide,rfl,IC DRow.o_nr _ out _ _,by simp,rfl⟩,
    ⟨rfl,rfl,rfl,rfl,rfl,rfl,BP _,by simp[EL],fun l hl=>by simp[EL] at hl; omega⟩,⟨rfl, ?tr⟩, ?eq⟩,⟨hk',by simp[hol],by rw[← hb,aF hk',U9,aY]; rfl⟩,by simp only; omega⟩
   case tr=>unfold Am; rw[Bg]; exact qW rfl rfl rfl (CB (AL _))
   case eq=>unfold Am; rw[Bg,Yk]; rfl
  ·have hk':k=(meant q l).length:=by simp at h; omega
   subst hk'
   rw[aP] at hb
   have:out=(meant q l).map fun r=>JU r q.out:=by simpa using hb
   subst this
   simp only[go_sem,AL]
   try simp[Ac,AO,zeroV]
theorem allA {N:Nat} {a:Ob} (ha:BQ N a=true) : [a].all (BQ N)=true:=by simp[ha]
theorem Ea (l:List DRow) (hl:fitS Ah l):Ctr prog 104 [.c (.sl (l.map DRow.c))] [.own 147 2 (l.map DRow.o) true]:=by
 refine CM call104 func104 ntmps104 results104 fun hw=>?_
 have hlen:=hl.1
 simp only[go_sem,ae]
 refine LoopH.mk [6] (A:=Nat×List DRow) (fun x=>[(9,.c (.v (.int .i64 (x.1)))),(3,.c (.ref 0))]) (fun x=>[⟨147,2,x.2.map DRow.o,true,true⟩]) (fun x=>x.1≤l.length∧x.2.length≤x.1∧x.2++l.drop x.1=l) (fun x=>l.length-x.1) (0,[]) (Head.sel [(0,false)] ⟨rfl,rfl,rfl,trivial⟩ rfl) ⟨aJ _,aQ _,rfl⟩ ?_
 rintro⟨k,out⟩ ⟨hk,hol,hb⟩
 dsimp only at hk hol hb
 simp only[go_sem,ae]
 refine cndC.mk (fun h=>?_) (fun h=>?_)
 ·have hk':k<l.length:=by simpa using h
  rw[aF hk'] at hb
  have hr:=hl.2 _ (au hk')
  rw[Bc] at hr
  have hrl:=hr.1
  have hol2:out.length+1≤2147483648:=by omega
  simp only[go_sem,ae,AA _ hk',hk',ay]
  refine CW (Dh l[k] hrl) fun _=>?_
  simp only[go_sem,aS,aZ,ae,AA _ hk',hk',hol2,Em,aN,ay,wrap_i64 (n:=(k:Int)+1) (by omega) (by omega)]
  refine⟨(k+1,out ++ [l[k]]),Head.selAbs [(4,true),(2,false)] 1 0 ⟨rfl,rfl,IE DRow.o_nr _ out rfl,AP DVal.pure,trivial⟩ ⟨out.length,out.map DRow.o ++ [DRow.o l[k]],_,DRow.o l[k],_,⟨gW 0,rfl,IC DRow.o_nr _ out _ _,by simp,rfl⟩,
   ⟨rfl,rfl,rfl,rfl,rfl,rfl,BP _,by simp[EL],fun l hl=>by simp[EL] at hl; omega⟩,⟨rfl, ?tr⟩, ?eq⟩,⟨hk',by simp; omega,(aY _ _ _).trans hb⟩,by simp only; omega⟩
  case tr=>unfold Am; rw[Bg]; exact allA (CB (AL _))
  case eq=>unfold Am; rw[Bg,Yk]; rfl
 ·have hk':k=l.length:=by simp at h; omega
  subst hk'
  rw[aP] at hb
  have:out=l:=by simpa using hb
  subst this
  simp only[go_sem,AL]
  try simp
theorem F6 (l:List DRow) (hl:fitS Ah l):Ctr prog 86 [.c (.sl (l.map DRow.c))] [.own 147 2 (l.map DRow.o) true]:=by
 refine CM call86 func86 ntmps86 results86 fun hw=>?_
 have hlen:=hl.1
 simp only[go_sem,ae]
 refine LoopH.mk [6] (A:=Nat×List DRow) (fun x=>[(4,.c (.v (.int .i64 (x.1)))),(3,.c (.ref 0))]) (fun x=>[⟨147,2,x.2.map DRow.o,true,true⟩]) (fun x=>x.1≤l.length∧x.2.length≤x.1∧x.2++l.drop x.1=l) (fun x=>l.length-x.1) (0,[]) (Head.sel [(0,false)] ⟨rfl,rfl,rfl,trivial⟩ rfl) ⟨aJ _,aQ _,rfl⟩ ?_
 rintro⟨k,out⟩ ⟨hk,hol,hb⟩
 dsimp only at hk hol hb
 simp only[go_sem,ae]
 refine cndC.mk (fun h=>?_) (fun h=>?_)
 ·have hk':k<l.length:=by simpa using h
  rw[aF hk'] at hb
  have hr:=hl.2 _ (au hk')
  rw[Bc] at hr
  have hrl:=hr.1
  have hol2:out.length+1≤2147483648:=by omega
  simp only[go_sem,ae,AA _ hk',hk',ay]
  refine CW (EQ l[k] hrl) fun _=>?_
  simp only[go_sem,aS,aZ,ae,AA _ hk',hk',hol2,Em,aN,ay,wrap_i64 (n:=(k:Int)+1) (by omega) (by omega)]
  refine⟨(k+1,out ++ [l[k]]),Head.selAbs [(4,true),(1,false)] 1 0 ⟨rfl,rfl,IE DRow.o_nr _ out rfl,AP DVal.pure,trivial⟩ ⟨out.length,out.map DRow.o ++ [DRow.o l[k]],_,DRow.o l[k],_,⟨gW 0,rfl,IC DRow.o_nr _ out _ _,by simp,rfl⟩,
   ⟨rfl,rfl,rfl,rfl,rfl,rfl,BP _,by simp[EL],fun l hl=>by simp[EL] at hl; omega⟩,⟨rfl, ?tr⟩, ?eq⟩,⟨hk',by simp; omega,(aY _ _ _).trans hb⟩,by simp only; omega⟩
  case tr=>unfold Am; rw[Bg]; exact allA (CB (AL _))
  case eq=>unfold Am; rw[Bg,Yk]; rfl
 ·have hk':k=l.length:=by simp at h; omega
  subst hk'
  rw[aP] at hb
  have:out=l:=by simpa using hb
  subst this
  simp only[go_sem,AL]
  try simp
@[go_sem] theorem yD:E5 []=true:=rfl
@[go_sem] theorem qY (l:List Int):E5 (l.map intC)=true:=AP intC.pure
attribute [go_sem] aS aZ aO bQ Vf ae ay bC
def oW (p:DPred):List Cl:=[.v (.int .i64 p.kind),.v (.int .i64 p.col),.v (.int .i64 p.op),.v (.int .i64 p.v.ty),.v (.int .i64 p.v.n),.v (.string p.v.s),.sl (p.l.map DPred.c)]
@[go_sem] theorem uS (p:DPred):oW p = [.v (.int .i64 p.kind),.v (.int .i64 p.col),.v (.int .i64 p.op),.v (.int .i64 p.v.ty),.v (.int .i64 p.v.n),.v (.string p.v.s),.sl (p.l.map DPred.c)]:=rfl
def jQ:List Cl:=[.v (.int .i64 0),.v (.int .i64 0),.v (.int .i64 0),.v (.int .i64 0),.v (.int .i64 0),.v (.string ByteArray.empty),.v (.slice none 0 0)]
def qZ (p:DPred):List Cl:=[.v (.int .i64 p.kind),.v (.int .i64 p.col),.v (.int .i64 p.op),.v (.int .i64 p.v.ty),.v (.int .i64 p.v.n),.v (.string p.v.s),.v (.slice none 0 0)]
def jR (p:DPred) (l:Nat):List Cl:=[.v (.int .i64 p.kind),.v (.int .i64 p.col),.v (.int .i64 p.op),.v (.int .i64 p.v.ty),.v (.int .i64 p.v.n),.v (.string p.v.s),.ref l]
@[go_sem] theorem r_:jQ = [.v (.int .i64 0),.v (.int .i64 0),.v (.int .i64 0),.v (.int .i64 0),.v (.int .i64 0),.v (.string ByteArray.empty),.v (.slice none 0 0)]:=rfl
@[go_sem] theorem sD (p:DPred):qZ p = [.v (.int .i64 p.kind),.v (.int .i64 p.col),.v (.int .i64 p.op),.v (.int .i64 p.v.ty),.v (.int .i64 p.v.n),.v (.string p.v.s),.v (.slice none 0 0)]:=rfl
@[go_sem] theorem sF (p:DPred) (l:Nat):jR p l = [.v (.int .i64 p.kind),.v (.int .i64 p.col),.v (.int .i64 p.op),.v (.int .i64 p.v.ty),.v (.int .i64 p.v.n),.v (.string p.v.s),.ref l]:=rfl
theorem Rk (r:DResult) (hr:He r):Ctr prog 93 [.agg r.c] [.agg r.o]:=by
 rw[JI] at hr
 refine CM call93 func93 ntmps93 results93 fun hw=>?_
 simp only[go_sem]
 refine CW (F6 r.rows hr.1) fun _=>?_
 simp only[go_sem,AL]
 try simp[Ac,AO]
theorem Yj (p:DPred) (hp:BF p) (hx:∀ x∈p.l,Ctr prog 135 [.agg x.c] [.agg x.o]):Ctr prog 135 [.agg p.c] [.agg p.o]:=by
 refine CM call135 func135 ntmps135 results135 fun hw=>?_
 have hpl:p.l.length≤1048576:=by rw[Bi] at hp; exact hp.2.1
 simp only[go_sem]
 refine LoopH.mk [8,7] (A:=Nat×List DPred) (fun x=>[(4,.c (.v (.int .i64 (x.1))))]) (fun x=>[⟨78,7,[oW p],true,true⟩,⟨78,7,[jQ],true,true⟩,⟨78,7,[jR p 3],true,true⟩,⟨78,7,x.2.map DPred.o,true,true⟩]) (fun x=>x.1≤p.l.length∧x.2.length=x.1∧x.2++p.l.drop x.1=p.l) (fun x=>p.l.length-x.1) (0,[]) (Head.sel [(0,false),(1,true),(2,true),(3,false)] ⟨rfl,rfl,rfl,rfl,rfl,rfl,trivial⟩ rfl) ⟨aJ _,rfl,rfl⟩ ?_
 rintro⟨k,out⟩ ⟨hk,hol,hb⟩
 dsimp only at hk hol hb
 simp only[go_sem]
 refine cndC.mk (fun h=>?_) (fun h=>?_)
 ·have hk':k<p.l.length:=by simpa using h
  rw[aF hk'] at hb
  have hol2:out.length+1≤2147483648:=by omega
  have hnr:∀ (a b c d e:Int) (t:ByteArray) (l:Nat),IK [[Cl.v (.int .i64 a),Cl.v (.int .i64 b),Cl.v (.int .i64 c),Cl.v (.int .i64 d),Cl.v (.int .i64 e),Cl.v (.string t),.ref l]]=false:=fun _ _ _ _ _ _ _=>rfl
  simp only[go_sem,AA _ hk',hk']
  refine CW (hx p.l[k] (au hk')) fun _=>?_
  simp only[go_sem,aS,aZ,AA _ hk',hk',hol2,hnr,Em,aN,ay,wrap_i64 (n:=(k:Int)+1) (by omega) (by omega)]
  refine⟨(k+1,out ++ [p.l[k]]),Head.selAbs [(0,false),(1,true),(2,true),(7,true),(4,true)] 4 3 ⟨rfl,rfl,rfl,rfl,rfl,IE DPred.o_nr _ out rfl,Fb (CV _),trivial⟩ ⟨out.length,out.map DPred.o ++ [DPred.o p.l[k]],_,DPred.o p.l[k],_,⟨gW 3,rfl,IC DPred.o_nr _ out _ _,by simp,rfl⟩,
   (by rw[DPred.o_eq]; exact⟨rfl,rfl,rfl,rfl,rfl,rfl,rfl,rfl,rfl,rfl,rfl,rfl,rfl,rfl,Fa (CV _),rfl,CV _,by simp[EL],fun l hl=>by simp[EL] at hl; omega⟩),⟨rfl, ?tr⟩, ?eq⟩,⟨hk',by simp; omega,(aY _ _ _).trans hb⟩,by simp only; omega⟩
  case tr=>unfold Am; rw[Bg]; exact qW rfl rfl rfl (CB (CV _))
  case eq=>unfold Am; rw[Bg,Yk]; rfl
 ·have hk':k=p.l.length:=by simp at h; omega
  subst hk'
  rw[aP] at hb
  have:out=p.l:=by simpa using hb
  rw[← this]
  simp only[go_sem,CV]
  try simp[Ac,AO]
theorem eY {C:DPred→Prop} (h:∀ p,BF p→(∀ x∈p.l,C x)→C p):∀ (n:Nat) (p:DPred),SizeOf.sizeOf p≤n→BF p→C p:=by
 intro n
 induction n with
 | zero=>intro p h; cases p; simp at h
 | succ n ih =>
  intro p hs hp
  refine h p hp fun x hx=>ih x ?_ ?_
  ·have h1:SizeOf.sizeOf x<SizeOf.sizeOf p.l:=eu hx
   have h2:SizeOf.sizeOf p.l<SizeOf.sizeOf p:=by cases p; simp[DPred.l]; omega
   omega
  ·rw[Bi] at hp; exact hp.2.2 x hx
theorem U5 (p:DPred) (hp:BF p):Ctr prog 135 [.agg p.c] [.agg p.o]:=eY Yj _ p (aQ _) hp
theorem ed (l:List Int):HY 1 (l.map intC)=true:=Jj (fun _=>rfl) l
theorem U6 (q:DQuery) (hq:DW q):Ctr prog 92 [.agg q.c] [.agg q.o]:=by
 rw[DX] at hq
 refine CM call92 func92 ntmps92 results92 fun hw=>?_
 have hl:q.out.length≤2147483648:=by have:=hq.2; omega
 simp only[go_sem]
 refine CW (U5 q.p hq.1) fun _=>?_
 simp only[go_sem,ed,ae,hl,ay,AU,CV]
 try simp[Ac,AO]
theorem U7 (d:DDeed) (hd:Cc d):Ctr prog 56 [.agg d.c] [.agg d.o]:=by
 rw[FB] at hd
 refine CM call56 func56 ntmps56 results56 fun hw=>?_
 have h1:d.r.length≤2147483648:=by have:=hd.1.1; omega
 simp only[go_sem,Qc,ae,h1,ay]
 refine CW (U6 d.q hd.2.1) fun _=>?_
 simp only[go_sem,ae,ay]
 refine CW (Rk d.res hd.2.2) fun _=>?_
 simp only[go_sem,AU,CV,BP,Ik,AL]
 try simp[Ac,AO]
theorem yZ {a1 a2 a3 a4 a5 a6 a7 a8 a9 b1 b2 b3 b4 b5 b6 b7 b8 b9:Int} {t1 t2:ByteArray} {c1:Bool} {n1 n2 n3 n4:Nat}:IK [[Cl.v (.int .i64 a1),Cl.v (.int .i64 a2),.ref n1,Cl.v (.int .i64 a3),Cl.v (.int .i64 a5),Cl.v (.int .i64 a6),Cl.v (.int .i64 a7),Cl.v (.int .i64 a8),Cl.v (.int .i64 a9),Cl.v (.int .i64 b1),Cl.v (.string t1),.ref n2,Cl.v (.int .i64 b2),.ref n3,.ref n4,Cl.v (.int .i64 b3),Cl.v (.bool c1),Cl.v (.int .i64 b4),Cl.v (.int .i64 b5),Cl.v (.string t2),Cl.v (.int .i64 b6),Cl.v (.int .i64 b7),Cl.v (.int .i64 b8),Cl.v (.int .i64 b9),Cl.v (.int .i64 a4)]]=false:=rfl
theorem jS {l:List DDeed} {x:Int} (h:x∈Gu l):0≤x∧x<(l.length:Int):=by
 unfold Gu at h
 split at h
 ·rename_i hx
  exact Ordd.mem hx.choose_spec h
 ·cases h
theorem Rl (l:List DDeed):(Gu l).length≤l.length:=by
 unfold Gu
 split
 ·rename_i hx
  exact Ordd.len hx.choose_spec
 ·simp
noncomputable def Sr (l:List DDeed) (k:Nat):List DDeed:=((Gu l).take k).filterMap fun x=>l[x.toNat]?
noncomputable def MQ (l:List DDeed):List DDeed:=Sr l (Gu l).length
theorem Rn (l:List DDeed) (k:Nat):(Sr l k).length≤k:=by
 unfold Sr
 exact ZW (mQ _ _) (by simp; omega)
theorem TY {l:List DDeed} {k n:Nat} (hk:k<(Gu l).length) (hn:n<l.length) (e:at0 (Gu l) k=(n:Int)):Sr l (k+1)=Sr l k ++ [l[n]]:=by
 unfold Sr
 rw[List.take_add_one,List.filterMap_append,IY hk,e]
 simp[hn]
theorem jT {l:List DDeed} {k:Nat} {d:DDeed} (h:d∈Sr l k):d∈l:=by
 unfold Sr at h
 obtain⟨x,_,hx⟩:=List.mem_filterMap.1 h
 exact aT hx
theorem oZ {l:List DDeed} {k:Nat} (h:k<(Gu l).length):∃ n:Nat,at0 (Gu l) k=(n:Int)∧n<l.length:=by
 have:=jS (at_mem h)
 exact⟨(at0 (Gu l) k).toNat,by omega,by omega⟩
theorem Ro {l:List DDeed} (hl:fitS Cc l):fitS Cc (MQ l):=⟨by
 have h1:=Rn l (Gu l).length
 have h2:=Rl l
 have h3:=hl.1
 unfold MQ
 omega,fun d hd=>hl.2 d (jT hd)⟩
theorem Su (w:DWorld) (hl:fitS Cc w.deeds):Ctr prog 21 [.agg w.c] [.own 84 25 ((MQ w.deeds).map DDeed.o) true]:=by
 refine CM call21 func21 ntmps21 results21 fun hw=>?_
 have hlen:=hl.1
 simp only[go_sem]
 refine CW (WZ w.deeds hlen) fun _=>?_
 simp only[go_sem,ae]
 refine LoopH.mk [10] (A:=Nat×List DDeed) (fun x=>[(5,.c (.v (.int .i64 (x.1)))),(4,.c (.ref 1))]) (fun x=>[⟨49,14,[w.c],true,true⟩,⟨84,25,x.2.map DDeed.o,true,true⟩]) (fun x=>x.1≤(Gu w.deeds).length∧x.2=Sr w.deeds x.1) (fun x=>(Gu w.deeds).length-x.1) (0,[]) (Head.sel [(0,false),(1,false)] ⟨rfl,rfl,rfl,rfl,trivial⟩ rfl) ⟨aJ _,rfl⟩ ?_
 rintro⟨k,out⟩ ⟨hk,hb⟩
 dsimp only at hk hb
 simp only[go_sem,ae]
 refine cndC.mk (fun h=>?_) (fun h=>?_)
 ·have hk':k<(Gu w.deeds).length:=by simpa using h
  obtain⟨n,e,hn⟩:=oZ hk'
  have hsu:=TY hk' hn e
  rw[← hb] at hsu
  have hr:=hl.2 _ (au hn)
  have hll:=Rl w.deeds
  have hol:=Rn w.deeds k
  rw[← hb] at hol
  have hol2:out.length+1≤2147483648:=by omega
  have t1:=EZ hk'
  rw[e] at t1
  simp only[go_sem,ae,t1,hk',AA _ hn,hn,ay]
  refine DrawK.mkA 9 8 (by kernel_rfl) ?_
  simp only[go_sem,ae,t1,hk',AA _ hn,hn,ay]
  refine CZ (U7 w.deeds[n] hr) ?_
  simp only[go_sem,aS,aZ,AA _ hn,hn,hk',t1,hol2,yZ,aN,ay,wrap_i64 (n:=(k:Int)+1) (by omega) (by omega)]
  refine⟨(k+1,out ++ [w.deeds[n]]),Head.selAbs [(0,false),(8,true),(2,false),(3,true),(4,false),(5,true)] 2 1 ⟨rfl,rfl,rfl,IE DDeed.o_nr _ out rfl,AP DVal.pure,Fb (CV _),qY _,Fb (AL _),trivial⟩ ⟨out.length,out.map DDeed.o ++ [DDeed.o w.deeds[n]],_,DDeed.o w.deeds[n],_,⟨gW 1,rfl,IC DDeed.o_nr _ out _ _,by simp,rfl⟩,
   (by rw[DDeed.o_eq,DQuery.o_eq,DResult.o_eq,DPred.o_eq]; exact⟨rfl,rfl,rfl,rfl,rfl,rfl,rfl,rfl,BP _,by simp[EL],rfl,rfl,rfl,rfl,rfl,rfl,rfl,rfl,rfl,rfl,rfl,rfl,rfl,rfl,rfl,rfl,rfl,rfl,Fa (CV _),rfl,CV _,by simp[EL],rfl,rfl,rfl,rfl,rfl,rfl,AU _,by simp[EL],rfl,rfl,Fa (AL _),rfl,AL _,by simp[EL],rfl,rfl,rfl,rfl,rfl,rfl,rfl,rfl,rfl,rfl,rfl,rfl,rfl,rfl,rfl,rfl,rfl,rfl,rfl,rfl,fun l hl=>by simp[EL] at hl; omega⟩),⟨rfl, ?tr⟩, ?eq⟩,⟨hk',hsu.symm⟩,by simp only; omega⟩
  case tr=>unfold Am; rw[Bg]; exact all2 rfl (CB (JP _))
  case eq=>unfold Am; rw[Bg,Yk]; rfl
 ·have hk':k=(Gu w.deeds).length:=by simp at h; omega
  subst hk'
  have:out=MQ w.deeds:=hb
  subst this
  simp only[go_sem,JP]
  try simp
end Go.Proofs.YtgkmefoghbjfnaaGreat
