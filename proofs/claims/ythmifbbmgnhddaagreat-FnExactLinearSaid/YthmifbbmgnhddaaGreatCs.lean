/- A part. -/
import Derived.Test.YthmifbbmgnhddaaGreatSm
import Derived.Test.YthmifbbmgnhddaaGreatDk
import Derived.Deep.RegionLaw
import Derived.Test.YthmifbbmgnhddaaGreatXb
import Derived.Test.YthmifbbmgnhddaaGreatWa
import Derived.Test.YthmifbbmgnhddaaGreatZr
set_option linter.unusedSimpArgs false
set_option linter.unusedVariables false
set_option maxHeartbeats 8000000
set_option maxRecDepth 100000
open Go.Proofs.Tryz
namespace Go.Proofs.YthmifbbmgnhddaaGreat
open Go.Vm
section
variable {p q r:Prop}
theorem ASm(h:p:=by kernel_rfl):p:=h
end
def H8:DResult:=⟨[],0,false,⟨0,0,ByteArray.empty⟩⟩
def IX:DTask:=⟨0,0,0,[],0,JH,0,0,[],0,0,0,0,0,false,[]⟩
def Hg (w:DWorld) (t:DTask):DTask:=⟨t.op,t.pc,(w.deeds.length:Int),t.r,t.id,t.q,t.ts,t.ver,t.l,t.i,t.j,t.s,t.at0,t.own,t.won,t.got⟩
def KI (w:DWorld) (k:Int) (t:DTask) (d:DDeed):DDeed:=⟨t.op,k,d.r,d.id,d.q,d.res,d.code,d.stamp,w.time,-1,-1⟩
def FQ (w:DWorld) (k:Nat) (t:DTask) (d:DDeed) (code:Int):DWorld:=
 if code=0 then⟨w.c0,IntKind.i64.wrap (w.time+1),w.t,w.e,w.d,w.b,w.m,w.x,w.p,w.tasks.set k (Hg w t),w.deeds ++ [⟨t.op,k,d.r,d.id,d.q,d.res,d.code,d.stamp,w.time,-1,-1⟩]⟩
 else⟨w.c0,IntKind.i64.wrap (w.time+1),w.t,w.e,w.d,w.b,w.m,w.x,w.p.set k (-1),w.tasks,w.deeds ++ [⟨t.op,k,d.r,d.id,d.q,d.res,code,d.stamp,w.time,w.time,w.time⟩]⟩
theorem AAl {t:DTask} (h0:(t.op==0)=true) (h:B_ t=true):t=IX:=by
 obtain⟨op,pc,h1,r,id,⟨qk,p,qc,qo⟩,ts,ver,l,i,j,s,at0,own,won,got⟩:=t
 cases p with
 | mk pk pc2 po pv pl =>
 obtain⟨vt,vn,vs⟩:=pv
 simp only[B_,noQ,jW,az,nz,abl,DPred.kind,DPred.col,DPred.op,DPred.v,DPred.l] at h h0
 obtain⟨rfl,rfl,g1,rfl,⟨rfl,rfl,g2,rfl,rfl,rfl,⟨rfl,rfl,g3⟩,g4⟩,rfl,rfl,g5,rfl,rfl,rfl,rfl,rfl,rfl,g6⟩:=h
 have hn:∀ {α:Type} {l:List α},(l.length:Int)=0→l = []:=fun {α l} h=>bY AQ2
 have hvs:vs=ByteArray.empty:=uy g3
 subst h0
 rw[hn g1,hn g2,hn g4,hn g5,hn g6,hvs]
 rfl
theorem ADe {w:DWorld} (hw:D_ w=true) {k:Nat} (hk:k<w.tasks.length) (h0:(w.tasks[k].op==0)=true):w.tasks[k]=IX:=by
 unfold D_ at hw
 simp only[az] at hw
 obtain⟨_,_,_,_,_,_,_,_,_,_,ht,_⟩:=hw
 have h1:=Yf.1 ht k hk
 simp only[Rn,JX,az,aaY] at h1
 obtain⟨⟨_,_,_,_,_,_,_,h2⟩,_⟩:=h1
 rcases h2 with h2 | h2
 ·simp only[bne,h0] at h2; cases h2
 ·exact AAl h0 h2
open Go.RowKit
theorem nH (l:List DDead):Jq 3 (l.map DDead.c)=true:=MK (fun _=>rfl) l
theorem fF (l:List DRef):Jq 5 (l.map DRef.c)=true:=MK (fun _=>rfl) l
theorem SE (l:List DRef) (h:l.length≤1048576):Ctr prog 253 [.c (.sl (l.map DRef.c))] [.own 204 5 (l.map DRef.c) true]:=by
 refine CM call253 func253 ntmps253 results253 fun hw=>?_
 have hl:l.length≤2147483648:=AQ2
 simp only[go_sem,fF,ae,hl,ak,E_]
 try simp
theorem lQ (d:DDir) (h:d.l.length≤1048576):Ctr prog 136 [.agg d.c] [.agg d.o]:=by
 refine CM call136 func136 ntmps136 results136 fun hw=>?_
 simp only[go_sem]
 refine AAR ?_
 simp only[go_sem]
 refine ABO _ (SE d.l h) ?_
 simp only[go_sem,E_]
 try exact AHA
theorem qF (d:DDir) (h:d.l.length≤1048576):Ctr prog 104 [.agg d.c] [.agg d.o]:=by
 refine CM call104 func104 ntmps104 results104 fun hw=>?_
 have hl:d.l.length≤2147483648:=AQ2
 simp only[go_sem]
 refine AAR ?_
 simp only[go_sem,fF,ae,hl,ak,E_]
 try exact AHA
theorem AAV {N:Nat} {a b c d:Ob} (ha:Aq N a=true) (hb:Aq N b=true) (hc:Aq N c=true) (hd:Aq N d=true) : [a,b,c,d].all (Aq N)=true:=by simp[ha,hb,hc,hd]
def v_ (n:Int):List Cl:=[.v (.int .i64 n),.v (.slice none 0 0)]
def AAm (n:Int) (l:Nat):List Cl:=[.v (.int .i64 n),.ref l]
@[go_sem] theorem ALd (n:Int):v_ n = [.v (.int .i64 n),.v (.slice none 0 0)]:=rfl
@[go_sem] theorem AKt (n:Int) (l:Nat):AAm n l = [.v (.int .i64 n),.ref l]:=rfl
theorem Z4 (c:DChunk) (hc:E5 c):Ctr prog 254 [.agg c.c] [.agg c.o]:=by
 rw[DY] at hc
 refine CM call254 func254 ntmps254 results254 fun hw=>?_
 have hlen:=hc.1
 simp only[go_sem]
 refine AAU [] (A:=Nat×List DSlot) (fun x=>[(12,.c (.v (.int .i64 (x.1))))]) (fun x=>[⟨168,2,[c.c],true,true⟩,⟨168,2,[v_ 0],true,true⟩,⟨168,2,[AAm c.next 3],true,true⟩,⟨231,2,x.2.map DSlot.o,true,true⟩]) (fun x=>x.1≤c.l.length∧x.2.length=x.1∧x.2++c.l.drop x.1=c.l) (fun x=>c.l.length-x.1) (0,[]) (Head.trans (Head.nilR 2 1 231 2 ⟨168,2,[v_ c.next],true,true⟩ (v_ c.next) rfl rfl rfl) (AAQ [(0,false),(1,true),(2,true),(3,false)] ⟨rfl,rfl,rfl,rfl,rfl,rfl,trivial⟩ rfl)) ⟨au _,rfl,rfl⟩ ?_
 rintro⟨k,out⟩ ⟨hk,hol,hb⟩
 dsimp only at hk hol hb
 refine AQx (fun h=>?_) fun h=>?_
 ·have hk':k<c.l.length:=by simpa using h
  rw[aA hk'] at hb
  have hr:=hc.2 _ (aj hk')
  rw[Jw] at hr
  have hol2:out.length+1≤2147483648:=AQ2
  have hnr:∀ (a:Int) (l:Nat),D7 [[Cl.v (.int .i64 a),.ref l]]=false:=fun _ _=>rfl
  simp only[go_sem,AA _ hk',hk']
  refine AEG 6 8 [0,1,2,3,4,5,6,7,8,9,10,11] [7,8] rfl ASm rfl ASm ?_
  refine AAR ?_
  simp only[go_sem,AA _ hk',hk']
  refine ABO _ (DZ c.l[k].l hr.1) ?_
  simp only[go_sem,aW,bn,AA _ hk',hk',hol2,hnr,GM,ay,ak,wrap_i64 (n:=(k:Int)+1) AQ2 AQ2]
  exact AJ9
 ·have hk':k=c.l.length:=by simp at h; omega
  subst hk'
  rw[aJ] at hb
  have:out=c.l:=ARZ
  subst this
  simp only[go_sem,Ha]
  try exact AHA
theorem qG (c:DChunk) (hc:E5 c):Ctr prog 298 [.agg c.c] [.agg c.o]:=by
 rw[DY] at hc
 refine CM call298 func298 ntmps298 results298 fun hw=>?_
 have hlen:=hc.1
 simp only[go_sem]
 refine AAU [8,7] (A:=Nat×List DSlot) (fun x=>[(4,.c (.v (.int .i64 (x.1)))),(3,.lp 2 0 0)]) (fun x=>[⟨168,2,[c.c],true,true⟩,⟨168,2,[v_ 0],true,true⟩,⟨168,2,[AAm c.next 3],true,true⟩,⟨231,2,x.2.map DSlot.o,true,true⟩]) (fun x=>x.1≤c.l.length∧x.2.length=x.1∧x.2++c.l.drop x.1=c.l) (fun x=>c.l.length-x.1) (0,[]) (AAQ [(0,false),(1,true),(3,true),(2,false)] ⟨rfl,rfl,rfl,rfl,rfl,rfl,trivial⟩ rfl) ⟨au _,rfl,rfl⟩ ?_
 rintro⟨k,out⟩ ⟨hk,hol,hb⟩
 dsimp only at hk hol hb
 refine AQx (fun h=>?_) fun h=>?_
 ·have hk':k<c.l.length:=by simpa using h
  rw[aA hk'] at hb
  have hr:=hc.2 _ (aj hk')
  rw[Jw] at hr
  have hol2:out.length+1≤2147483648:=AQ2
  have hsl2:c.l[k].l.length≤2147483648:=by have:=hr.1; omega
  have hnr:∀ (a:Int) (l:Nat),D7 [[Cl.v (.int .i64 a),.ref l]]=false:=fun _ _=>rfl
  simp only[go_sem,AA _ hk',hk']
  refine AEG 15 17 [0,1,2,3,4,5,6,7,8,9,10,11,12,13,14,15,16,17,18,19,20] [16,17] rfl ASm rfl ASm ?_
  refine AAR ?_
  simp only[go_sem,AA _ hk',hk',IY,hsl2,hol2,hnr,aW,bn,GM,ay,ak,wrap_i64 (n:=(k:Int)+1) AQ2 AQ2]
  exact AJ9
 ·have hk':k=c.l.length:=by simp at h; omega
  subst hk'
  rw[aJ] at hb
  have:out=c.l:=ARZ
  subst this
  simp only[go_sem,Ha]
  try exact AHA
theorem fG (l:List DBuf) (hl:fitS KL l):Ctr prog 137 [.c (.sl (l.map DBuf.c))] [.own 170 5 (l.map DBuf.o) true]:=by
 refine CM call137 func137 ntmps137 results137 fun hw=>?_
 have hlen:=hl.1
 simp only[go_sem,ae]
 refine AAU [6] (A:=Nat×List DBuf) (fun x=>[(9,.c (.v (.int .i64 (x.1)))),(3,.c (.ref 0))]) (fun x=>[⟨170,5,x.2.map DBuf.o,true,true⟩]) (fun x=>x.1≤l.length∧x.2.length≤x.1∧x.2++l.drop x.1=l) (fun x=>l.length-x.1) (0,[]) (AAQ [(0,false)] ⟨rfl,rfl,rfl,trivial⟩ rfl) ⟨au _,aI _,rfl⟩ ?_
 rintro⟨k,out⟩ ⟨hk,hol,hb⟩
 dsimp only at hk hol hb
 refine AQy (fun h=>?_) fun h=>?_
 ·have hk':k<l.length:=by simpa using h
  rw[aA hk'] at hb
  have hr:=hl.2 _ (aj hk')
  rw[JL] at hr
  have hol2:out.length+1≤2147483648:=AQ2
  have hnr:∀ (a b c:Int) (m n:Nat),D7 [[Cl.v (.int .i64 a),Cl.v (.int .i64 b),Cl.v (.int .i64 c),.ref m,.ref n]]=false:=fun _ _ _ _ _=>rfl
  simp only[go_sem,ae,AA _ hk',hk',ak]
  refine AEG 10 12 [0,1,2,3,4,5,6,7,8,9,10,11,12,13,14] [11,12] rfl ASm rfl ASm ?_
  refine AAR ?_
  simp only[go_sem,AA _ hk',hk']
  refine CZ (Z4 l[k].c0 hr.1) ?_
  simp only[go_sem,AA _ hk',hk']
  refine ABO _ (Gh l[k].g (by have:=hr.2; omega)) ?_
  simp only[go_sem,aW,bn,AA _ hk',hk',hol2,hnr,GM,ay,ak,wrap_i64 (n:=(k:Int)+1) AQ2 AQ2]
  refine⟨(k+1,out ++ [l[k]]),ABP [(5,true),(2,true),(3,false)] 1 0 ⟨rfl,rfl,FH DBuf.o_nr _ out rfl,Bc (Ha _),AP byteC.pure,trivial⟩ ⟨out.length,out.map DBuf.o ++ [DBuf.o l[k]],_,DBuf.o l[k],_,⟨bD 0,rfl,FD DBuf.o_nr _ out _ _,AQ3,rfl⟩,
   ⟨rfl,rfl,rfl,rfl,rfl,rfl,rfl,rfl, ?xs,rfl, ?nr,ARF,rfl,rfl,rfl,rfl,CE _,ARF,fun l hl=>ARA⟩,⟨rfl, ?tr⟩, ?eq⟩,⟨hk',AQ5,(aZ _ _ _).trans hb⟩,AQ4⟩
  case xs=>exact BM (Ha _)
  case nr=>exact Ha _
  case tr=>unfold Am; rw[Ae]; exact allA (AU (D5 _))
  case eq=>unfold Am; rw[Ae,bQ]; rfl
 ·exact AO4
theorem qH (b:DBuf) (hb:KL b):Ctr prog 212 [.agg b.c] [.agg b.o]:=by
 rw[JL] at hb
 refine CM call212 func212 ntmps212 results212 fun hw=>?_
 have hl:b.g.length≤2147483648:=by have:=hb.2; omega
 simp only[go_sem]
 refine ACh 6 7 [0,1,2,3,4,5,6,7,8,9,10,11,12] [0,1,2,3,4,5,7,6,8,9,10,11,12] rfl ASm ASm ?_ ?_
 all_goals
  refine AAR ?_
  simp only[go_sem,CE]
  refine CZ (qG b.c0 hb.1) ?_
  simp only[go_sem,Gg,ae,hl,ak,CE,Ha]
  try exact AHA
theorem wB (l:List DBuf) (hl:fitS KL l):Ctr prog 105 [.c (.sl (l.map DBuf.c))] [.own 170 5 (l.map DBuf.o) true]:=by
 refine CM call105 func105 ntmps105 results105 fun hw=>?_
 have hlen:=hl.1
 simp only[go_sem,ae]
 refine AAU [6] (A:=Nat×List DBuf) (fun x=>[(4,.c (.v (.int .i64 (x.1)))),(3,.c (.ref 0))]) (fun x=>[⟨170,5,x.2.map DBuf.o,true,true⟩]) (fun x=>x.1≤l.length∧x.2.length≤x.1∧x.2++l.drop x.1=l) (fun x=>l.length-x.1) (0,[]) (AAQ [(0,false)] ⟨rfl,rfl,rfl,trivial⟩ rfl) ⟨au _,aI _,rfl⟩ ?_
 rintro⟨k,out⟩ ⟨hk,hol,hb⟩
 dsimp only at hk hol hb
 refine AQy (fun h=>?_) fun h=>?_
 ·have hk':k<l.length:=by simpa using h
  rw[aA hk'] at hb
  have hr:=hl.2 _ (aj hk')
  have hol2:out.length+1≤2147483648:=AQ2
  have hnr:∀ (a b c:Int) (m n:Nat),D7 [[Cl.v (.int .i64 a),Cl.v (.int .i64 b),Cl.v (.int .i64 c),.ref m,.ref n]]=false:=fun _ _ _ _ _=>rfl
  simp only[go_sem,ae,AA _ hk',hk',ak]
  refine CW (qH l[k] hr) fun _=>?_
  simp only[go_sem,aW,bn,AA _ hk',hk',hol2,hnr,GM,ay,ak,wrap_i64 (n:=(k:Int)+1) AQ2 AQ2]
  refine⟨(k+1,out ++ [l[k]]),ABP [(5,true),(1,true),(2,false)] 1 0 ⟨rfl,rfl,FH DBuf.o_nr _ out rfl,Bc (Ha _),AP byteC.pure,trivial⟩ ⟨out.length,out.map DBuf.o ++ [DBuf.o l[k]],_,DBuf.o l[k],_,⟨bD 0,rfl,FD DBuf.o_nr _ out _ _,AQ3,rfl⟩,
   ⟨rfl,rfl,rfl,rfl,rfl,rfl,rfl,rfl, ?xs,rfl, ?nr,ARF,rfl,rfl,rfl,rfl,CE _,ARF,fun l hl=>ARA⟩,⟨rfl, ?tr⟩, ?eq⟩,⟨hk',AQ5,(aZ _ _ _).trans hb⟩,AQ4⟩
  case xs=>exact BM (Ha _)
  case nr=>exact Ha _
  case tr=>unfold Am; rw[Ae]; exact allA (AU (D5 _))
  case eq=>unfold Am; rw[Ae,bQ]; rfl
 ·exact AO4
theorem X_ (r:DResult) (hr:LK r):Ctr prog 257 [.agg r.c] [.agg r.o]:=by
 rw[Nj] at hr
 refine CM call257 func257 ntmps257 results257 fun hw=>?_
 simp only[go_sem]
 refine AAR ?_
 simp only[go_sem]
 refine CZ (GI r.rows hr.1) ?_
 simp only[go_sem,AO]
 try exact AHA
theorem fH (r:DResult) (hr:LK r):Ctr prog 310 [.agg r.c] [.agg r.o]:=by
 rw[Nj] at hr
 refine CM call310 func310 ntmps310 results310 fun hw=>?_
 simp only[go_sem]
 refine CW (IU r.rows hr.1) fun _=>?_
 simp only[go_sem,AO]
 try exact AHA
def AAn:List Cl:=[.v (.int .i64 0),.v (.int .i64 0),.v (.int .i64 0),.v (.int .i64 0),.v (.int .i64 0),.v (.string ByteArray.empty),.v (.slice none 0 0)]
def AAo (p:DPred):List Cl:=[.v (.int .i64 p.kind),.v (.int .i64 p.col),.v (.int .i64 p.op),.v (.int .i64 p.v.ty),.v (.int .i64 p.v.n),.v (.string p.v.s),.v (.slice none 0 0)]
def AAp (p:DPred) (l:Nat):List Cl:=[.v (.int .i64 p.kind),.v (.int .i64 p.col),.v (.int .i64 p.op),.v (.int .i64 p.v.ty),.v (.int .i64 p.v.n),.v (.string p.v.s),.ref l]
@[go_sem] theorem AKu:AAn = [.v (.int .i64 0),.v (.int .i64 0),.v (.int .i64 0),.v (.int .i64 0),.v (.int .i64 0),.v (.string ByteArray.empty),.v (.slice none 0 0)]:=rfl
@[go_sem] theorem AKv (p:DPred):AAo p = [.v (.int .i64 p.kind),.v (.int .i64 p.col),.v (.int .i64 p.op),.v (.int .i64 p.v.ty),.v (.int .i64 p.v.n),.v (.string p.v.s),.v (.slice none 0 0)]:=rfl
@[go_sem] theorem AKw (p:DPred) (l:Nat):AAp p l = [.v (.int .i64 p.kind),.v (.int .i64 p.col),.v (.int .i64 p.op),.v (.int .i64 p.v.ty),.v (.int .i64 p.v.n),.v (.string p.v.s),.ref l]:=rfl
theorem qI (p:DPred) (hp:Ap p) (hx:∀ x∈p.l,Ctr prog 267 [.agg x.c] [.agg x.o]):Ctr prog 267 [.agg p.c] [.agg p.o]:=by
 refine CM call267 func267 ntmps267 results267 fun hw=>?_
 have hpl:p.l.length≤1048576:=ASF
 simp only[go_sem]
 refine AAU [] (A:=Nat×List DPred) (fun x=>[(18,.c (.v (.int .i64 (x.1))))]) (fun x=>[⟨69,7,[jV p],true,true⟩,⟨69,7,[AAn],true,true⟩,⟨69,7,[AAp p 3],true,true⟩,⟨69,7,x.2.map DPred.o,true,true⟩]) (fun x=>x.1≤p.l.length∧x.2.length=x.1∧x.2++p.l.drop x.1=p.l) (fun x=>p.l.length-x.1) (0,[]) (Head.trans (Head.nilR 2 6 69 7 ⟨69,7,[AAo p],true,true⟩ (AAo p) rfl rfl rfl) (AAQ [(0,false),(1,true),(2,true),(3,false)] ⟨rfl,rfl,rfl,rfl,rfl,rfl,trivial⟩ rfl)) ⟨au _,rfl,rfl⟩ ?_
 rintro⟨k,out⟩ ⟨hk,hol,hb⟩
 dsimp only at hk hol hb
 refine AQx (fun h=>?_) fun h=>?_
 ·have hk':k<p.l.length:=by simpa using h
  rw[aA hk'] at hb
  have hol2:out.length+1≤2147483648:=AQ2
  have hnr:∀ (a b c d e:Int) (t:ByteArray) (l:Nat),D7 [[Cl.v (.int .i64 a),Cl.v (.int .i64 b),Cl.v (.int .i64 c),Cl.v (.int .i64 d),Cl.v (.int .i64 e),Cl.v (.string t),.ref l]]=false:=fun _ _ _ _ _ _ _=>rfl
  simp only[go_sem,AA _ hk',hk']
  refine AAR ?_
  simp only[go_sem,AA _ hk',hk']
  refine CZ (hx p.l[k] (aj hk')) ?_
  simp only[go_sem,aW,bn,AA _ hk',hk',hol2,hnr,GM,ay,ak,wrap_i64 (n:=(k:Int)+1) AQ2 AQ2]
  refine⟨(k+1,out ++ [p.l[k]]),ABP [(0,false),(1,true),(2,true),(7,true),(5,true)] 4 3 ⟨rfl,rfl,rfl,rfl,rfl,FH DPred.o_nr _ out rfl,Bc (BC _),trivial⟩ ⟨out.length,out.map DPred.o ++ [DPred.o p.l[k]],_,DPred.o p.l[k],_,⟨bD 3,rfl,FD DPred.o_nr _ out _ _,AQ3,rfl⟩,
   (by rw[DPred.o_eq]; exact⟨rfl,rfl,rfl,rfl,rfl,rfl,rfl,rfl,rfl,rfl,rfl,rfl,rfl,rfl,BM (BC _),rfl,BC _,ARF,fun l hl=>ARA⟩),⟨rfl, ?tr⟩, ?eq⟩,⟨hk',AQ5,(aZ _ _ _).trans hb⟩,AQ4⟩
  case tr=>unfold Am; rw[Ae]; exact AAV rfl rfl rfl (AU (BC _))
  case eq=>unfold Am; rw[Ae,bQ]; rfl
 ·have hk':k=p.l.length:=by simp at h; omega
  subst hk'
  rw[aJ] at hb
  have:out=p.l:=ARZ
  rw[← this]
  simp only[go_sem,BC]
  try exact AHA
theorem AAq (p:DPred) (hp:Ap p) (hx:∀ x∈p.l,Ctr prog 309 [.agg x.c] [.agg x.o]):Ctr prog 309 [.agg p.c] [.agg p.o]:=by
 refine CM call309 func309 ntmps309 results309 fun hw=>?_
 have hpl:p.l.length≤1048576:=ASF
 simp only[go_sem]
 refine AAU [8,7] (A:=Nat×List DPred) (fun x=>[(4,.c (.v (.int .i64 (x.1))))]) (fun x=>[⟨69,7,[jV p],true,true⟩,⟨69,7,[AAn],true,true⟩,⟨69,7,[AAp p 3],true,true⟩,⟨69,7,x.2.map DPred.o,true,true⟩]) (fun x=>x.1≤p.l.length∧x.2.length=x.1∧x.2++p.l.drop x.1=p.l) (fun x=>p.l.length-x.1) (0,[]) (AAQ [(0,false),(1,true),(2,true),(3,false)] ⟨rfl,rfl,rfl,rfl,rfl,rfl,trivial⟩ rfl) ⟨au _,rfl,rfl⟩ ?_
 rintro⟨k,out⟩ ⟨hk,hol,hb⟩
 dsimp only at hk hol hb
 refine AQx (fun h=>?_) fun h=>?_
 ·have hk':k<p.l.length:=by simpa using h
  rw[aA hk'] at hb
  have hol2:out.length+1≤2147483648:=AQ2
  have hnr:∀ (a b c d e:Int) (t:ByteArray) (l:Nat),D7 [[Cl.v (.int .i64 a),Cl.v (.int .i64 b),Cl.v (.int .i64 c),Cl.v (.int .i64 d),Cl.v (.int .i64 e),Cl.v (.string t),.ref l]]=false:=fun _ _ _ _ _ _ _=>rfl
  simp only[go_sem,AA _ hk',hk']
  refine CW (hx p.l[k] (aj hk')) fun _=>?_
  simp only[go_sem,aW,bn,AA _ hk',hk',hol2,hnr,GM,ay,ak,wrap_i64 (n:=(k:Int)+1) AQ2 AQ2]
  refine⟨(k+1,out ++ [p.l[k]]),ABP [(0,false),(1,true),(2,true),(7,true),(4,true)] 4 3 ⟨rfl,rfl,rfl,rfl,rfl,FH DPred.o_nr _ out rfl,Bc (BC _),trivial⟩ ⟨out.length,out.map DPred.o ++ [DPred.o p.l[k]],_,DPred.o p.l[k],_,⟨bD 3,rfl,FD DPred.o_nr _ out _ _,AQ3,rfl⟩,
   (by rw[DPred.o_eq]; exact⟨rfl,rfl,rfl,rfl,rfl,rfl,rfl,rfl,rfl,rfl,rfl,rfl,rfl,rfl,BM (BC _),rfl,BC _,ARF,fun l hl=>ARA⟩),⟨rfl, ?tr⟩, ?eq⟩,⟨hk',AQ5,(aZ _ _ _).trans hb⟩,AQ4⟩
  case tr=>unfold Am; rw[Ae]; exact AAV rfl rfl rfl (AU (BC _))
  case eq=>unfold Am; rw[Ae,bQ]; rfl
 ·have hk':k=p.l.length:=by simp at h; omega
  subst hk'
  rw[aJ] at hb
  have:out=p.l:=ARZ
  rw[← this]
  simp only[go_sem,BC]
  try exact AHA
theorem nI {C:DPred→Prop} (h:∀ p,Ap p→(∀ x∈p.l,C x)→C p):∀ (n:Nat) (p:DPred),SizeOf.sizeOf p≤n→Ap p→C p:=by
 intro n
 induction n with
 | zero=>intro p h; cases p; simp at h
 | succ n ih =>
  intro p hs hp
  refine h p hp fun x hx=>ih x ?_ ?_
  ·exact ALB
  ·rw[BG] at hp; exact hp.2.2 x hx
theorem fJ (p:DPred) (hp:Ap p):Ctr prog 267 [.agg p.c] [.agg p.o]:=nI qI _ p (aI _) hp
theorem qJ (p:DPred) (hp:Ap p):Ctr prog 309 [.agg p.c] [.agg p.o]:=nI AAq _ p (aI _) hp
theorem UD (l:List Int):Jq 1 (l.map intC)=true:=MK (fun _=>rfl) l
theorem Hf (l:List Int) (h:l.length≤1048576):Ctr prog 135 [.c (.sl (l.map intC))] [.own 3 1 (l.map intC) true]:=by
 refine CM call135 func135 ntmps135 results135 fun hw=>?_
 have hl:l.length≤2147483648:=AQ2
 simp only[go_sem,UD,ae,hl,ak,AX]
 try simp
theorem Gf (q:DQuery) (hq:Bl q):Ctr prog 164 [.agg q.c] [.agg q.o]:=by
 rw[EG] at hq
 refine CM call164 func164 ntmps164 results164 fun hw=>?_
 simp only[go_sem]
 refine AAR ?_
 simp only[go_sem]
 refine CZ (fJ q.p hq.1) ?_
 simp only[go_sem]
 refine ABO _ (Hf q.out hq.2) ?_
 simp only[go_sem,AX,BC]
 try exact AHA
theorem WB (q:DQuery) (hq:Bl q):Ctr prog 213 [.agg q.c] [.agg q.o]:=by
 rw[EG] at hq
 refine CM call213 func213 ntmps213 results213 fun hw=>?_
 have hl:q.out.length≤2147483648:=by have:=hq.2; omega
 simp only[go_sem]
 refine CW (qJ q.p hq.1) fun _=>?_
 simp only[go_sem,UD,ae,hl,ak,AX,BC]
 try exact AHA
theorem fK (t:DTask) (ht:Ff t):Ctr prog 138 [.agg t.c] [.agg t.o]:=by
 rw[ED] at ht
 refine CM call138 func138 ntmps138 results138 fun hw=>?_
 simp only[go_sem]
 refine AAR ?_
 simp only[go_sem]
 refine ABO _ (DZ t.r ht.1.1) ?_
 simp only[go_sem]
 refine CZ (Gf t.q ht.2.1) ?_
 simp only[go_sem]
 refine ABO _ (SE t.l ht.2.2.1) ?_
 simp only[go_sem]
 refine CZ (GI t.got ht.2.2.2) ?_
 simp only[go_sem,AX,BC,BH,E_,AO]
 try exact AHA
theorem QW (t:DTask) (ht:Ff t):Ctr prog 106 [.agg t.c] [.agg t.o]:=by
 rw[ED] at ht
 refine CM call106 func106 ntmps106 results106 fun hw=>?_
 have h1:t.r.length≤2147483648:=by have:=ht.1.1; omega
 have h2:t.l.length≤2147483648:=by have:=ht.2.2.1; omega
 simp only[go_sem,IY,ae,h1,ak]
 refine CW (WB t.q ht.2.1) fun _=>?_
 simp only[go_sem,fF,ae,h2,ak]
 refine CW (IU t.got ht.2.2.2) fun _=>?_
 simp only[go_sem,AX,BC,BH,E_,AO]
 try exact AHA
theorem fM (d:DDeed) (hd:C_ d):Ctr prog 139 [.agg d.c] [.agg d.o]:=by
 rw[ES] at hd
 refine CM call139 func139 ntmps139 results139 fun hw=>?_
 simp only[go_sem]
 refine AAR ?_
 simp only[go_sem]
 refine ABO _ (DZ d.r hd.1.1) ?_
 simp only[go_sem]
 refine CZ (Gf d.q hd.2.1) ?_
 simp only[go_sem]
 refine CZ (X_ d.res hd.2.2) ?_
 simp only[go_sem,AX,BC,BH,E_,AO]
 try exact AHA
theorem Nc (d:DDeed) (hd:C_ d):Ctr prog 215 [.agg d.c] [.agg d.o]:=by
 rw[ES] at hd
 refine CM call215 func215 ntmps215 results215 fun hw=>?_
 have h1:d.r.length≤2147483648:=by have:=hd.1.1; omega
 simp only[go_sem,IY,ae,h1,ak]
 refine CW (WB d.q hd.2.1) fun _=>?_
 simp only[go_sem,ae,ak]
 refine CW (fH d.res hd.2.2) fun _=>?_
 simp only[go_sem,AX,BC,BH,E_,AO]
 try exact AHA
theorem nrT {a1 a2 a3 a4 a5 a6 a7 a8 a9 b1 b2 b3 b4 b5 b6 b7 b8 b9:Int} {t1:ByteArray} {c1:Bool} {n1 n2 n3 n4 n5:Nat}:D7 [[Cl.v (.int .i64 a1),Cl.v (.int .i64 a2),Cl.v (.int .i64 a3),.ref n1,Cl.v (.int .i64 a4),Cl.v (.int .i64 a5),Cl.v (.int .i64 a6),Cl.v (.int .i64 a7),Cl.v (.int .i64 a8),Cl.v (.int .i64 a9),Cl.v (.int .i64 b1),Cl.v (.string t1),.ref n2,Cl.v (.int .i64 b2),.ref n3,Cl.v (.int .i64 b3),Cl.v (.int .i64 b4),.ref n4,Cl.v (.int .i64 b5),Cl.v (.int .i64 b6),Cl.v (.int .i64 b7),Cl.v (.int .i64 b8),Cl.v (.int .i64 b9),Cl.v (.bool c1),.ref n5]]=false:=rfl
theorem nrD {a1 a2 a3 a4 a5 a6 a7 a8 a9 b1 b2 b3 b4 b5 b6 b7 b8 b9:Int} {t1 t2:ByteArray} {c1:Bool} {n1 n2 n3 n4:Nat}:D7 [[Cl.v (.int .i64 a1),Cl.v (.int .i64 a2),.ref n1,Cl.v (.int .i64 a3),Cl.v (.int .i64 a5),Cl.v (.int .i64 a6),Cl.v (.int .i64 a7),Cl.v (.int .i64 a8),Cl.v (.int .i64 a9),Cl.v (.int .i64 b1),Cl.v (.string t1),.ref n2,Cl.v (.int .i64 b2),.ref n3,.ref n4,Cl.v (.int .i64 b3),Cl.v (.bool c1),Cl.v (.int .i64 b4),Cl.v (.int .i64 b5),Cl.v (.string t2),Cl.v (.int .i64 b6),Cl.v (.int .i64 b7),Cl.v (.int .i64 b8),Cl.v (.int .i64 b9),Cl.v (.int .i64 a4)]]=false:=rfl
theorem wC (l:List DDeed) (hl:fitS C_ l):Ctr prog 107 [.c (.sl (l.map DDeed.c))] [.own 162 25 (l.map DDeed.o) true]:=by
 refine CM call107 func107 ntmps107 results107 fun hw=>?_
 have hlen:=hl.1
 simp only[go_sem,ae]
 refine AAU [6] (A:=Nat×List DDeed) (fun x=>[(4,.c (.v (.int .i64 (x.1)))),(3,.c (.ref 0))]) (fun x=>[⟨162,25,x.2.map DDeed.o,true,true⟩]) (fun x=>x.1≤l.length∧x.2.length≤x.1∧x.2++l.drop x.1=l) (fun x=>l.length-x.1) (0,[]) (AAQ [(0,false)] ⟨rfl,rfl,rfl,trivial⟩ rfl) ⟨au _,aI _,rfl⟩ ?_
 rintro⟨k,out⟩ ⟨hk,hol,hb⟩
 dsimp only at hk hol hb
 refine AQy (fun h=>?_) fun h=>?_
 ·have hk':k<l.length:=by simpa using h
  rw[aA hk'] at hb
  have hr:=hl.2 _ (aj hk')
  have hol2:out.length+1≤2147483648:=AQ2
  simp only[go_sem,ae,AA _ hk',hk',ak]
  refine CW (Nc l[k] hr) fun _=>?_
  simp only[go_sem,aW,bn,AA _ hk',hk',hol2,nrD,ay,ak,wrap_i64 (n:=(k:Int)+1) AQ2 AQ2]
  refine⟨(k+1,out ++ [l[k]]),ABP [(7,true),(1,false),(2,true),(3,false),(4,true)] 1 0 ⟨rfl,rfl,FH DDeed.o_nr _ out rfl,AP DVal.pure,Bc (BC _),CB _,Bc (AO _),trivial⟩ ⟨out.length,out.map DDeed.o ++ [DDeed.o l[k]],_,DDeed.o l[k],_,⟨bD 0,rfl,FD DDeed.o_nr _ out _ _,AQ3,rfl⟩,
   (by rw[DDeed.o_eq,DQuery.o_eq,DResult.o_eq,DPred.o_eq]; exact⟨rfl,rfl,rfl,rfl,rfl,rfl,rfl,rfl,BH _,ARF,rfl,rfl,rfl,rfl,rfl,rfl,rfl,rfl,rfl,rfl,rfl,rfl,rfl,rfl,rfl,rfl,rfl,rfl,BM (BC _),rfl,BC _,ARF,rfl,rfl,rfl,rfl,rfl,rfl,AX _,ARF,rfl,rfl,BM (AO _),rfl,AO _,ARF,rfl,rfl,rfl,rfl,rfl,rfl,rfl,rfl,rfl,rfl,rfl,rfl,rfl,rfl,rfl,rfl,rfl,rfl,rfl,rfl,fun l hl=>ARA⟩),⟨rfl, ?tr⟩, ?eq⟩,⟨hk',AQ5,(aZ _ _ _).trans hb⟩,AQ4⟩
  case tr=>unfold Am; rw[Ae]; exact allA (AU (IJ _))
  case eq=>unfold Am; rw[Ae,bQ]; rfl
 ·have hk':k=l.length:=by simp at h; omega
  subst hk'
  rw[aJ] at hb
  have:out=l:=ARZ
  subst this
  simp only[go_sem,IJ]
  try simp
def wRow (w:DWorld) (tc dc:Cl):List Cl:=[.ref 3,.v (.int .i64 w.c0.slots),.v (.int .i64 w.c0.bufs),.v (.int .i64 w.time),.v (.int .i64 w.t),.v (.int .i64 w.e),.v (.int .i64 w.d.ver),.ref 4,.ref 5,.ref 6,.ref 7,.ref 8,tc,dc]
def ACI:List Cl:=[.v (.slice none 0 0),.v (.int .i64 0),.v (.int .i64 0),.v (.int .i64 0),.v (.int .i64 0),.v (.int .i64 0),.v (.int .i64 0),.v (.slice none 0 0),.v (.slice none 0 0),.v (.slice none 0 0),.v (.slice none 0 0),.v (.slice none 0 0),.v (.slice none 0 0),.v (.slice none 0 0)]
@[go_sem] theorem AMp (w:DWorld) (tc dc:Cl):wRow w tc dc = [.ref 3,.v (.int .i64 w.c0.slots),.v (.int .i64 w.c0.bufs),.v (.int .i64 w.time),.v (.int .i64 w.t),.v (.int .i64 w.e),.v (.int .i64 w.d.ver),.ref 4,.ref 5,.ref 6,.ref 7,.ref 8,tc,dc]:=rfl
@[go_sem] theorem ALf:ACI = [.v (.slice none 0 0),.v (.int .i64 0),.v (.int .i64 0),.v (.int .i64 0),.v (.int .i64 0),.v (.int .i64 0),.v (.int .i64 0),.v (.slice none 0 0),.v (.slice none 0 0),.v (.slice none 0 0),.v (.slice none 0 0),.v (.slice none 0 0),.v (.slice none 0 0),.v (.slice none 0 0)]:=rfl
theorem AFI {N:Nat} {a b c d e f g h i j:Ob} (ha:Aq N a=true) (hb:Aq N b=true) (hc:Aq N c=true) (hd:Aq N d=true) (he:Aq N e=true) (hf:Aq N f=true) (hg:Aq N g=true) (hh:Aq N h=true) (hi:Aq N i=true) (hj:Aq N j=true) : [a,b,c,d,e,f,g,h,i,j].all (Aq N)=true:=by simp[ha,hb,hc,hd,he,hf,hg,hh,hi,hj]
theorem WC (w:DWorld) (hf:AZ w):Ctr prog 39 [.agg w.c] [.agg w.o]:=by
 rw[Ai,Es,LM] at hf
 obtain⟨f1,f2,f3,f4,f5,f6,f7,f8⟩:=hf
 refine CM call39 func39 ntmps39 results39 fun hw=>?_
 have hlen:=f7.1
 have f1':w.c0.cols.length≤2147483648:=AQ2
 have f4':w.m.length≤2147483648:=AQ2
 have f5':w.x.length≤2147483648:=AQ2
 have f6':w.p.length≤2147483648:=AQ2
 simp only[go_sem,UD,ae,f1',ak]
 refine CW (qF w.d f2) fun _=>?_
 simp only[go_sem]
 refine AAN _ (wB w.b f3) fun _=>?_
 simp only[go_sem,UD,nH,ae,f4',f5',f6',ak]
 refine AAU [4,6,7,8,9,10,11,12,13,14,15,16,17,18,19,20,21,22,23,24,25,26,27,28,29,30,31,32,33,34,35,36,37,38,39,40] (A:=Nat×List DTask) (fun x=>[(5,.c (.v (.int .i64 (x.1))))]) (fun x=>[⟨46,14,[w.c],true,true⟩,⟨46,14,[ACI],true,true⟩,⟨46,14,[wRow w (.ref 9) (.sl (w.deeds.map DDeed.c))],true,true⟩,⟨3,1,w.c0.cols.map intC,true,true⟩,⟨204,5,w.d.l.map DRef.c,true,true⟩,⟨170,5,w.b.map DBuf.o,true,true⟩,⟨3,1,w.m.map intC,true,true⟩,⟨173,3,w.x.map DDead.c,true,true⟩,⟨3,1,w.p.map intC,true,true⟩,⟨132,25,x.2.map DTask.o,true,true⟩]) (fun x=>x.1≤w.tasks.length∧x.2.length≤x.1∧x.2++w.tasks.drop x.1=w.tasks) (fun x=>w.tasks.length-x.1) (0,[]) (AAQ [(0,false),(1,true),(2,true),(4,false),(5,false),(7,true),(9,false),(11,false),(13,false),(14,false)] ⟨rfl,rfl,rfl,rfl,rfl,CB _,AP DRef.pure,Bc (D5 _),CB _,AP DDead.pure,CB _,rfl,trivial⟩ (by show (⟨65,_,[_,_,_,_,_,⟨170,5,(w.b.map DBuf.o).map (fun x=>x.map (NM [(0,false),(1,true),(2,true),(4,false),(5,false),(7,true),(9,false),(11,false),(13,false),(14,false)])),true,true⟩,_,_,_,_]⟩:MS)=_; rw[BM (D5 w.b)]; rfl)) ⟨au _,aI _,rfl⟩ ?_
 rintro⟨k,out⟩ ⟨hk,hol,hb⟩
 dsimp only at hk hol hb
 refine AQy (fun h=>?_) fun h=>?_
 ·have hk':k<w.tasks.length:=by simpa using h
  rw[aA hk'] at hb
  have hr:=f7.2 _ (aj hk')
  have hol2:out.length+1≤2147483648:=AQ2
  simp only[go_sem,ae,AA _ hk',hk',ak]
  refine CW (QW w.tasks[k] hr) fun _=>?_
  simp only[go_sem,aW,bn,AA _ hk',hk',hol2,nrT,ay,ak,wrap_i64 (n:=(k:Int)+1) AQ2 AQ2]
  refine⟨(k+1,out ++ [w.tasks[k]]),ABP [(0,false),(1,true),(2,true),(3,false),(4,false),(5,true),(6,false),(7,false),(8,false),(17,true),(10,false),(11,true),(12,false),(13,false),(14,true)] 10 9 ⟨rfl,rfl,rfl,rfl,rfl,CB _,AP DRef.pure,Bc (D5 _),CB _,AP DDead.pure,CB _,FH DTask.o_nr _ out rfl,AP DVal.pure,Bc (BC _),CB _,AP DRef.pure,Bc (AO _),trivial⟩ ⟨out.length,out.map DTask.o ++ [DTask.o w.tasks[k]],_,DTask.o w.tasks[k],_,⟨bD 9,rfl,FD DTask.o_nr _ out _ _,AQ3,rfl⟩,
   (by rw[DTask.o_eq,DQuery.o_eq,DPred.o_eq]; exact⟨rfl,rfl,rfl,rfl,rfl,rfl,rfl,rfl,rfl,rfl,BH _,ARF,rfl,rfl,rfl,rfl,rfl,rfl,rfl,rfl,rfl,rfl,rfl,rfl,rfl,rfl,rfl,rfl,rfl,rfl,BM (BC _),rfl,BC _,ARF,rfl,rfl,rfl,rfl,rfl,rfl,AX _,ARF,rfl,rfl,rfl,rfl,rfl,rfl,rfl,rfl,E_ _,ARF,rfl,rfl,rfl,rfl,rfl,rfl,rfl,rfl,rfl,rfl,rfl,rfl,rfl,rfl,BM (AO _),rfl,AO _,ARF,fun l hl=>ARA⟩),⟨rfl, ?tr⟩, ?eq⟩,⟨hk',AQ5,(aZ _ _ _).trans hb⟩,AQ4⟩
  case tr =>
   unfold Am
   rw[Ae]
   show ([_,_,_,_,_,⟨170,5,(w.b.map DBuf.o).map (fun x=>x.map (NM [(0,false),(1,true),(2,true),(3,false),(4,false),(5,true),(6,false),(7,false),(8,false),(17,true),(10,false),(11,true),(12,false),(13,false),(14,true)])),true,true⟩,_,_,_,_]:List Ob).all (Aq 10)=true
   exact APQ
  case eq =>
   unfold Am
   rw[Ae,bQ]
   show (⟨65,_,[_,_,_,_,_,⟨170,5,(w.b.map DBuf.o).map (fun x=>x.map (NM [(0,false),(1,true),(2,true),(3,false),(4,false),(5,true),(6,false),(7,false),(8,false),(17,true),(10,false),(11,true),(12,false),(13,false),(14,true)])),true,true⟩,_,_,_,_]⟩:MS)=_; rw[BM (D5 w.b)]; rfl
 ·have hk':k=w.tasks.length:=by simp at h; omega
  subst hk'
  rw[aJ] at hb
  have:out=w.tasks:=ARZ
  rw[← this]
  simp only[go_sem]
  refine AAN _ (wC w.deeds f8) fun _=>?_
  simp only[go_sem,IJ,GU,D5,AX,E_,Jo]
  try exact AHA
@[go_sem] theorem AJh (k:Nat):Region.binds Region.Mode.any { on:=k,ground:=Ground.textOnly Departure.lateStores }=false:=rfl
@[go_sem] theorem AHN (k:Nat):Region.binds Region.Mode.any { on:=k,ground:=Ground.textOnly Departure.lateStoresUnsure }=false:=rfl
def AIn (w:DWorld):List Cl:=[.ref 2,.v (.int .i64 w.c0.slots),.v (.int .i64 w.c0.bufs),.v (.int .i64 w.time),.v (.int .i64 w.t),.v (.int .i64 w.e),.v (.int .i64 w.d.ver),.ref 4,.ref 5,.ref 6,.ref 8,.ref 9,.v (.slice none 0 0),.v (.slice none 0 0)]
theorem ALg {N:Nat} {a b c d e f g h i j k:Ob} (h1 : [a,b,c,d,e,f,g,h,i,j].all (Aq N)=true) (h2:Aq N k=true) : [a,b,c,d,e,f,g,h,i,j,k].all (Aq N)=true:=by simp only[aW,bn,aF,az] at h1 ⊢; simp[h1,h2]
theorem EY (w:DWorld) (hf:AZ w):Ctr prog 53 [.agg w.c] [.agg w.o]:=by
 rw[Ai,Es,LM] at hf
 obtain⟨f1,f2,f3,f4,f5,f6,f7,f8⟩:=hf
 refine CM call53 func53 ntmps53 results53 fun hw=>?_
 have hlen:=f7.1
 have hlen2:=f8.1
 have f5':w.x.length≤2147483648:=AQ2
 simp only[go_sem]
 refine ACF 18 3 ASm ?_
 simp only[go_sem]
 refine ABO _ (Hf w.c0.cols f1) ?_
 simp only[go_sem]
 refine AAR ?_
 simp only[go_sem]
 refine CZ (lQ w.d f2) ?_
 simp only[go_sem]
 refine ABO _ (fG w.b f3) ?_
 simp only[go_sem]
 refine ABO _ (Hf w.m f4) ?_
 simp only[go_sem]
 refine AAR ?_
 simp only[go_sem,nH,ae,f5',ak]
 refine ABO _ (Hf w.p f6) ?_
 simp only[go_sem]
 refine AAU [8,9,10,11,12,13,14,15,16,17,18,19,20,21,22,23,24,25,26,27,28,29,30,31,32,33,34,35,36,37,38,39,40,41,42,43,44,45,46,47] (A:=Nat×List DTask) (fun x=>[(50,.c (.v (.int .i64 (x.1)))),(3,.lp 2 0 0)]) (fun x=>[⟨46,14,[w.c],true,true⟩,⟨46,14,[ACI],true,true⟩,⟨46,14,[wRow w (.ref 9) (.v (.slice none 0 0))],true,true⟩,⟨3,1,w.c0.cols.map intC,true,true⟩,⟨204,5,w.d.l.map DRef.c,true,true⟩,⟨170,5,w.b.map DBuf.o,true,true⟩,⟨3,1,w.m.map intC,true,true⟩,⟨173,3,w.x.map DDead.c,true,true⟩,⟨3,1,w.p.map intC,true,true⟩,⟨132,25,x.2.map DTask.o,true,true⟩]) (fun x=>x.1≤w.tasks.length∧x.2.length≤x.1∧x.2++w.tasks.drop x.1=w.tasks) (fun x=>w.tasks.length-x.1) (0,[]) (Head.trans (Head.nilR 3 12 132 25 ⟨46,14,[AIn w],true,true⟩ (AIn w) rfl rfl rfl) (AAQ [(0,false),(1,true),(3,true),(2,false),(4,false),(5,true),(6,false),(8,false),(9,false),(10,false)] ⟨rfl,rfl,rfl,rfl,rfl,CB _,AP DRef.pure,Bc (D5 _),CB _,AP DDead.pure,CB _,rfl,trivial⟩ (by show (⟨78,_,[_,_,_,_,_,⟨170,5,(w.b.map DBuf.o).map (fun x=>x.map (NM [(0,false),(1,true),(3,true),(2,false),(4,false),(5,true),(6,false),(8,false),(9,false),(10,false)])),true,true⟩,_,_,_,_]⟩:MS)=_; rw[BM (D5 w.b)]; rfl))) ⟨au _,aI _,rfl⟩ ?_
 ·rintro⟨k,out⟩ ⟨hk,hol,hb⟩
  dsimp only at hk hol hb
  refine AQy (fun h=>?_) fun h=>?_
  ·have hk':k<w.tasks.length:=by simpa using h
   rw[aA hk'] at hb
   have hr:=f7.2 _ (aj hk')
   have hol2:out.length+1≤2147483648:=AQ2
   simp only[go_sem,ae,AA _ hk',hk',ak]
   refine AAR ?_
   simp only[go_sem,AA _ hk',hk']
   refine CZ (fK w.tasks[k] hr) ?_
   simp only[go_sem,aW,bn,AA _ hk',hk',hol2,nrT,ay,ak,wrap_i64 (n:=(k:Int)+1) AQ2 AQ2]
   refine⟨(k+1,out ++ [w.tasks[k]]),ABP [(0,false),(1,true),(2,true),(3,false),(4,false),(5,true),(6,false),(7,false),(8,false),(17,true),(11,false),(12,true),(13,false),(14,false),(15,true)] 10 9 ⟨rfl,rfl,rfl,rfl,rfl,CB _,AP DRef.pure,Bc (D5 _),CB _,AP DDead.pure,CB _,FH DTask.o_nr _ out rfl,AP DVal.pure,Bc (BC _),CB _,AP DRef.pure,Bc (AO _),trivial⟩ ⟨out.length,out.map DTask.o ++ [DTask.o w.tasks[k]],_,DTask.o w.tasks[k],_,⟨bD 9,rfl,FD DTask.o_nr _ out _ _,AQ3,rfl⟩,
    (by rw[DTask.o_eq,DQuery.o_eq,DPred.o_eq]; exact⟨rfl,rfl,rfl,rfl,rfl,rfl,rfl,rfl,rfl,rfl,BH _,ARF,rfl,rfl,rfl,rfl,rfl,rfl,rfl,rfl,rfl,rfl,rfl,rfl,rfl,rfl,rfl,rfl,rfl,rfl,BM (BC _),rfl,BC _,ARF,rfl,rfl,rfl,rfl,rfl,rfl,AX _,ARF,rfl,rfl,rfl,rfl,rfl,rfl,rfl,rfl,E_ _,ARF,rfl,rfl,rfl,rfl,rfl,rfl,rfl,rfl,rfl,rfl,rfl,rfl,rfl,rfl,BM (AO _),rfl,AO _,ARF,fun l hl=>ARA⟩),⟨rfl, ?tr⟩, ?eq⟩,⟨hk',AQ5,(aZ _ _ _).trans hb⟩,AQ4⟩
   case tr =>
    unfold Am
    rw[Ae]
    show ([_,_,_,_,_,⟨170,5,(w.b.map DBuf.o).map (fun x=>x.map (NM [(0,false),(1,true),(2,true),(3,false),(4,false),(5,true),(6,false),(7,false),(8,false),(17,true),(11,false),(12,true),(13,false),(14,false),(15,true)])),true,true⟩,_,_,_,_]:List Ob).all (Aq 10)=true
    exact APQ
   case eq =>
    unfold Am
    rw[Ae,bQ]
    show (⟨78,_,[_,_,_,_,_,⟨170,5,(w.b.map DBuf.o).map (fun x=>x.map (NM [(0,false),(1,true),(2,true),(3,false),(4,false),(5,true),(6,false),(7,false),(8,false),(17,true),(11,false),(12,true),(13,false),(14,false),(15,true)])),true,true⟩,_,_,_,_]⟩:MS)=_; rw[BM (D5 w.b)]; rfl
  ·have hk':k=w.tasks.length:=by simp at h; omega
   subst hk'
   rw[aJ] at hb
   have:out=w.tasks:=ARZ
   rw[this]
   simp only[go_sem]
   refine AAU [] (A:=Nat×List DDeed) (fun x=>[(65,.c (.v (.int .i64 (x.1))))]) (fun x=>[⟨46,14,[w.c],true,true⟩,⟨46,14,[ACI],true,true⟩,⟨46,14,[wRow w (.ref 9) (.ref 10)],true,true⟩,⟨3,1,w.c0.cols.map intC,true,true⟩,⟨204,5,w.d.l.map DRef.c,true,true⟩,⟨170,5,w.b.map DBuf.o,true,true⟩,⟨3,1,w.m.map intC,true,true⟩,⟨173,3,w.x.map DDead.c,true,true⟩,⟨3,1,w.p.map intC,true,true⟩,⟨132,25,w.tasks.map DTask.o,true,true⟩,⟨162,25,x.2.map DDeed.o,true,true⟩]) (fun x=>x.1≤w.deeds.length∧x.2.length≤x.1∧x.2++w.deeds.drop x.1=w.deeds) (fun x=>w.deeds.length-x.1) (0,[]) (Head.trans (Head.nilR 2 13 162 25 ⟨46,14,[wRow w (.ref 9) (.v (.slice none 0 0))],true,true⟩ (wRow w (.ref 9) (.v (.slice none 0 0))) rfl rfl rfl) (AAQ [(0,false),(1,true),(2,true),(3,false),(4,false),(5,true),(6,false),(7,false),(8,false),(9,true),(10,false)] ⟨rfl,rfl,rfl,rfl,rfl,CB _,AP DRef.pure,Bc (D5 _),CB _,AP DDead.pure,CB _,Bc (GU _),rfl,trivial⟩ (by show (⟨78,_,[_,_,_,_,_,⟨170,5,(w.b.map DBuf.o).map (fun x=>x.map (NM [(0,false),(1,true),(2,true),(3,false),(4,false),(5,true),(6,false),(7,false),(8,false),(9,true),(10,false)])),true,true⟩,_,_,_,⟨132,25,(w.tasks.map DTask.o).map (fun x=>x.map (NM [(0,false),(1,true),(2,true),(3,false),(4,false),(5,true),(6,false),(7,false),(8,false),(9,true),(10,false)])),true,true⟩,_]⟩:MS)=_; rw[BM (D5 w.b),BM (GU w.tasks)]; rfl))) ⟨au _,aI _,rfl⟩ ?_
   clear hb hol hk h this out
   rintro⟨k,out⟩ ⟨hk,hol,hb⟩
   dsimp only at hk hol hb
   refine AQy (fun h=>?_) fun h=>?_
   ·have hk':k<w.deeds.length:=by simpa using h
    rw[aA hk'] at hb
    have hr:=f8.2 _ (aj hk')
    have hol2:out.length+1≤2147483648:=AQ2
    simp only[go_sem,ae,AA _ hk',hk',ak]
    refine AAR ?_
    simp only[go_sem,AA _ hk',hk']
    refine CZ (fM w.deeds[k] hr) ?_
    simp only[go_sem,aW,bn,AA _ hk',hk',hol2,nrD,ay,ak,wrap_i64 (n:=(k:Int)+1) AQ2 AQ2]
    refine⟨(k+1,out ++ [w.deeds[k]]),ABP [(0,false),(1,true),(2,true),(3,false),(4,false),(5,true),(6,false),(7,false),(8,false),(9,true),(17,true),(12,false),(13,true),(14,false),(15,true)] 11 10 ⟨rfl,rfl,rfl,rfl,rfl,CB _,AP DRef.pure,Bc (D5 _),CB _,AP DDead.pure,CB _,Bc (GU _),FH DDeed.o_nr _ out rfl,AP DVal.pure,Bc (BC _),CB _,Bc (AO _),trivial⟩ ⟨out.length,out.map DDeed.o ++ [DDeed.o w.deeds[k]],_,DDeed.o w.deeds[k],_,⟨bD 10,rfl,FD DDeed.o_nr _ out _ _,AQ3,rfl⟩,
     (by rw[DDeed.o_eq,DQuery.o_eq,DResult.o_eq,DPred.o_eq]; exact⟨rfl,rfl,rfl,rfl,rfl,rfl,rfl,rfl,BH _,ARF,rfl,rfl,rfl,rfl,rfl,rfl,rfl,rfl,rfl,rfl,rfl,rfl,rfl,rfl,rfl,rfl,rfl,rfl,BM (BC _),rfl,BC _,ARF,rfl,rfl,rfl,rfl,rfl,rfl,AX _,ARF,rfl,rfl,BM (AO _),rfl,AO _,ARF,rfl,rfl,rfl,rfl,rfl,rfl,rfl,rfl,rfl,rfl,rfl,rfl,rfl,rfl,rfl,rfl,rfl,rfl,rfl,rfl,fun l hl=>ARA⟩),⟨rfl, ?tr⟩, ?eq⟩,⟨hk',AQ5,(aZ _ _ _).trans hb⟩,AQ4⟩
    case tr =>
     unfold Am
     rw[Ae]
     show ([_,_,_,_,_,⟨170,5,(w.b.map DBuf.o).map (fun x=>x.map (NM [(0,false),(1,true),(2,true),(3,false),(4,false),(5,true),(6,false),(7,false),(8,false),(9,true),(17,true),(12,false),(13,true),(14,false),(15,true)])),true,true⟩,_,_,_,⟨132,25,(w.tasks.map DTask.o).map (fun x=>x.map (NM [(0,false),(1,true),(2,true),(3,false),(4,false),(5,true),(6,false),(7,false),(8,false),(9,true),(17,true),(12,false),(13,true),(14,false),(15,true)])),true,true⟩,_]:List Ob).all (Aq 11)=true
     rw[BM (D5 w.b),BM (GU w.tasks)]
     exact ALg (AFI rfl rfl rfl (AU (AX _)) (AU (E_ _)) (AU (D5 _)) (AU (AX _)) (AU (Jo _)) (AU (AX _)) (AU (GU _))) (AU (IJ _))
    case eq =>
     unfold Am
     rw[Ae,bQ]
     show (⟨78,_,[_,_,_,_,_,⟨170,5,(w.b.map DBuf.o).map (fun x=>x.map (NM [(0,false),(1,true),(2,true),(3,false),(4,false),(5,true),(6,false),(7,false),(8,false),(9,true),(17,true),(12,false),(13,true),(14,false),(15,true)])),true,true⟩,_,_,_,⟨132,25,(w.tasks.map DTask.o).map (fun x=>x.map (NM [(0,false),(1,true),(2,true),(3,false),(4,false),(5,true),(6,false),(7,false),(8,false),(9,true),(17,true),(12,false),(13,true),(14,false),(15,true)])),true,true⟩,_]⟩:MS)=_; rw[BM (D5 w.b),BM (GU w.tasks)]; rfl
   ·have hk':k=w.deeds.length:=by simp at h; omega
    subst hk'
    rw[aJ] at hb
    have:out=w.deeds:=ARZ
    rw[this]
    simp only[go_sem,IJ,GU,D5,AX,E_,Jo]
    try exact AHA
end Go.Proofs.YthmifbbmgnhddaaGreat
namespace Go.Vm
open Go.RowKit
variable {P:Program} {w0:Bs} {St0 St:Nat→Nat→Prop} {β:Nat→Option Nat} {s:MS} {a:Act} {w:World}
theorem Head.close (l0 i:Nat) (used:List Nat) {ob:Ob} {row row':List Cl} (hob:EH s.st l0=some ob) (hrw:ob.xs[i]?=some row) (hwr:ob.wr=true) (hl0:l0∉used)
  (ho:OwnL s.st row row' [l0] fun us=>∀ l∈us,l=l0∨l∈used):Head s ⟨s.n,s.env,Dl used l0 i row' ob s.st⟩:=⟨rfl,fun w0 St0 St β a w h=>⟨_,_,h.closeRow hob hrw hwr hl0 ho⟩⟩
theorem InlK.mkS {P:Program} {s:MS} {f:FuncId} {args:List AV} {dst:Option Nat} {K:MS→Prop} {A B C:Prop} (y:AV) (st':List Ob) (h:InlS P f s.st args y st') (hk:K (MS.put ⟨s.n,s.env,st'⟩ dst y)):QS A (QS B (QS C (InlK P f s args dst K))):=
 .inr (.inr (.inr ⟨h.1,fun w0 St0 St β a w us h1 h2=>(h.2 w0 St0 St β s a w us rfl h1 h2).mono fun e w' ⟨u,e1,St',β',q1,q2⟩=>⟨u,e1,⟨s.n,s.env,st'⟩,y,rfl,hk,St',β',q1,q2⟩⟩))
theorem EndH.self {P:Program} {s:MS} {vars:List ResultVar} {rs:List Res} (hp:Post P vars rs s):EndH P vars rs .ret s:=⟨s,⟨rfl,fun _ _ _ _ _ _ h=>⟨_,_,h⟩⟩,hp⟩
theorem EndH.close {P:Program} {s:MS} {vars:List ResultVar} {rs:List Res} (l0 i:Nat) (used:List Nat) {ob:Ob} {row row':List Cl} (hob:EH s.st l0=some ob) (hrw:ob.xs[i]?=some row) (hwr:ob.wr=true) (hl0:l0∉used)
  (ho:OwnL s.st row row' [l0] fun us=>∀ l∈us,l=l0∨l∈used) (hk:EndH P vars rs .ret ⟨s.n,s.env,Dl used l0 i row' ob s.st⟩):EndH P vars rs .ret s:=by
 obtain⟨t,h1,h2⟩:=hk
 exact⟨t,(Head.close l0 i used hob hrw hwr hl0 ho).trans h1,h2⟩
attribute [go_sem] ZY
end Go.Vm
namespace Go.Proofs.YthmifbbmgnhddaaGreat
open Go.Vm
def wdR (w:DWorld) (a b c d e f g h:Cl):List Cl:=[a,.v (.int .i64 w.c0.slots),.v (.int .i64 w.c0.bufs),.v (.int .i64 w.time),.v (.int .i64 w.t),.v (.int .i64 w.e),.v (.int .i64 w.d.ver),b,c,d,e,f,g,h]
@[go_sem] theorem ANa (w:DWorld) (a b c d e f g h:Cl):wdR w a b c d e f g h = [a,.v (.int .i64 w.c0.slots),.v (.int .i64 w.c0.bufs),.v (.int .i64 w.time),.v (.int .i64 w.t),.v (.int .i64 w.e),.v (.int .i64 w.d.ver),b,c,d,e,f,g,h]:=rfl
theorem ACJ (w:DWorld) {st:List Ob} {l:Nat} {x1 x2 x3 x4 x5 x6 x7 x8:Cl} (h:st[l]?=some ⟨46,14,[wdR w x1 x2 x3 x4 x5 x6 x7 x8],true,true⟩):InlS prog 42 st [.lp l 0 0] (.c (.v (.bool (xy w)))) st:=by
 refine AEc (fn:=f42) call42 func42 rfl mixed ntmps42 results42 ASm rfl fun m env=>?_
 have hob:EH st l=some ⟨46,14,[wdR w x1 x2 x3 x4 x5 x6 x7 x8],true,true⟩:=by simp[EH,h]
 simp only[go_sem] at hob
 rcases h1:decide (w.time<1000000) with _ | _<;>rcases h2:decide (w.t<1000000) with _ | _<;>rcases h3:decide (w.e<1000000) with _ | _ <;>
  simp only[go_sem,hob,h1,h2,h3,xy,ah,ag]
def opAt (w:DWorld) (k:Int):Int:=match w.tasks[k.toNat]? with
 | some t=>t.op
 | none=>1
def JK (w:DWorld) (k:Int):Bool:=Ad k 0 2&&((opAt w k==0)&&xy w)
noncomputable def CU (w:DWorld) (k:Int):Bool:=D_ w&&JK w k
theorem qK {k a b:Int} (h:Ad k a b=true) (ha:0≤a):∃ n:Nat,k=n∧(n:Int)≤b:=by
 simp[Ad] at h
 exact⟨k.toNat,AQ2,AQ2⟩
theorem Nh {w:DWorld} (h:D_ w=true):w.tasks.length=5∧w.p.length=5:=by
 unfold D_ at h
 simp only[az,nz] at h
 omega
theorem fO (w:DWorld) (k:Int) (hw0:D_ w=true):Ctr prog 41 [.agg w.c,.c (.v (.int .i64 (k)))] [.val (.c (.v (.bool (Ad k 0 2&&(opAt w k==0)))))]:=by
 refine CM call41 func41 ntmps41 results41 fun hw=>?_
 simp only[go_sem]
 try refine AAO ?_
 try simp only[go_sem]
 first | refine AAS _ (AQ k 0 2) ?_ | refine AAN _ (AQ k 0 2) fun _=>?_
 rcases h1:Ad k 0 2 with _ | _
 ·exact AOH
 obtain⟨n,rfl,hn⟩:=qK h1 AQ2
 have hl:n<w.tasks.length:=by have:=(Nh hw0).1; omega
 have e:opAt w (n:Int)=w.tasks[n].op:=by simp[opAt,hl]
 simp only[go_sem,h1,AA _ hl,hl,e,ah]
theorem O9 {w:DWorld} {k:Int} (hf:AZ w) (h1:D_ w=true) (h2:(Ad k 0 2&&(opAt w k==0))=true):∃ n:Nat,k=n∧(n:Int)≤2∧n<w.tasks.length∧n<w.p.length∧w.tasks[n]?=some IX∧w.deeds.length+1≤2147483648:=by
 simp only[az,nz] at h2
 obtain⟨n,rfl,hn⟩:=qK h2.1 AQ2
 have hl:=Nh h1
 have hlt:n<w.tasks.length:=AQ2
 have hz:w.tasks[n]=IX:=ADe h1 hlt (by have:=h2.2; simp[opAt,hlt] at this; simp[this])
 rw[Ai] at hf
 have:=hf.2.2.2.2.2.2.2.1
 exact⟨n,rfl,hn,hlt,AQ2,by simp[hlt,hz],AQ2⟩
theorem OJ {α:Type} {f:α→Prop}:fitS f []:=⟨AQ3,fun x hx=>by simp at hx⟩
theorem nJ:Ap ⟨0,0,0,⟨0,0,ByteArray.empty⟩,[]⟩:=by rw[BG]; exact⟨by simp[Ee,DPred.v],OJ⟩
theorem SG (w:DWorld) (k:Int) (hw0:D_ w=true):Ctr prog 140 [.agg w.c,.c (.v (.int .i64 (k)))] [.val (.c (.v (.bool (JK w k))))]:=by
 have hl:=Nh hw0
 refine CM call140 func140 ntmps140 results140 fun hw=>?_
 unfold JK
 simp only[go_sem]
 try refine AAO ?_
 try simp only[go_sem]
 first | refine AAS _ (AL k 0 2) ?_ | refine AAN _ (AL k 0 2) fun _=>?_
 rcases h1:Ad k 0 2 with _ | _
 ·exact AOH
 obtain⟨n,rfl,hn⟩:=qK h1 AQ2
 have h2:n<w.tasks.length:=AQ2
 have h3:n<w.p.length:=AQ2
 have e:opAt w (n:Int)=w.tasks[n].op:=by simp[opAt,h2]
 have d2:decide ((n:Int)<(w.tasks.length:Int))=true:=AQ5
 have d3:decide ((n:Int)<(w.p.length:Int))=true:=AQ5
 simp only[go_sem,h1,ae,h2,h3,d2,d3,AA _ h2,e,ah]
 try refine AAO ?_
 try simp only[go_sem,ae,h2,h3,d2,d3,AA _ h2]
 first | refine CY (RZ w.tasks[n]) ?_ | refine CW (RZ w.tasks[n]) fun _=>?_
 rcases h4:w.tasks[n].op==0 with _ | _
 ·simp only[go_sem,h4,ag,ae,h2,h3,AA _ h2]
 simp only[go_sem,h4,ae,h2,h3,AA _ h2,ah]
 try refine AAO ?_
 try simp only[go_sem,ae,h2,h3,h4,AA _ h2]
 first | refine CY (ZN w) ?_ | refine CW (ZN w) fun _=>?_
 rw[AD7 hw0]
 rcases h5:xy w with _ | _<;>simp only[go_sem,h5,ae,h2,h3,AA _ h2,aO,aH]
end Go.Proofs.YthmifbbmgnhddaaGreat
