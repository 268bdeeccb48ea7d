/- A part. -/
import Derived.Test.YtnoldekcdlaahaaGreatPZd
import Derived.Test.YtnoldekcdlaahaaGreatPZx
import Derived.Test.YtnoldekcdlaahaaGreatPZc
set_option linter.unusedSimpArgs false
set_option linter.unusedVariables false
set_option maxHeartbeats 8000000
set_option maxRecDepth 10000
open Go.Proofs.Tryz
namespace Go.Proofs.YtnoldekcdlaahaaGreat
open Go.Vm
section
variable {p q r:Prop}
theorem AP_(h:p:=by kernel_rfl):p:=h
end
theorem Om (l:List DRef):Kz 5 (l.map DRef.c)=true:=OH (fun _=>rfl) l
theorem Qe (l:List DRef) (h:l.length≤1048576):Ctr prog 170 [.c (.sl (l.map DRef.c))] [.own 133 5 (l.map DRef.c) true]:=by
 refine CM call170 func170 ntmps170 results170 fun hw=>?_
 have hl:l.length≤2147483648:=AOQ
 simp only[go_sem,Om,ae,hl,aH,BO]
 try simp
theorem TK (d:DDir) (h:d.l.length≤1048576):Ctr prog 113 [.agg d.c] [.agg d.o]:=by
 refine CM call113 func113 ntmps113 results113 fun hw=>?_
 simp only[go_sem]
 refine ABH ?_
 simp only[go_sem]
 refine ACI _ (Qe d.l h) ?_
 simp only[go_sem,BO]
 try exact AII
theorem U3 (d:DDir) (h:d.l.length≤1048576):Ctr prog 78 [.agg d.c] [.agg d.o]:=by
 refine CM call78 func78 ntmps78 results78 fun hw=>?_
 have hl:d.l.length≤2147483648:=AOQ
 simp only[go_sem]
 refine ABH ?_
 simp only[go_sem,Om,ae,hl,aH,BO]
 try exact AII
theorem AEo {N:Nat} {a b c d:Ob} (ha:Aw N a=true) (hb:Aw N b=true) (hc:Aw N c=true) (hd:Aw N d=true) : [a,b,c,d].all (Aw N)=true:=by simp[ha,hb,hc,hd]
def rP (n:Int):List Cl:=[.v (.int .i64 n),.v (.slice none 0 0)]
def xK (n:Int) (l:Nat):List Cl:=[.v (.int .i64 n),.ref l]
@[go_sem] theorem AIg (n:Int):rP n = [.v (.int .i64 n),.v (.slice none 0 0)]:=rfl
@[go_sem] theorem AHy (n:Int) (l:Nat):xK n l = [.v (.int .i64 n),.ref l]:=rfl
theorem JL (c:DChunk) (hc:EI c):Ctr prog 233 [.agg c.c] [.agg c.o]:=by
 rw[CE] at hc
 refine CM call233 func233 ntmps233 results233 fun hw=>?_
 have hlen:=hc.1
 simp only[go_sem]
 refine ABZ [] (A:=Nat×List DSlot) (fun x=>[(12,.c (.v (.int .i64 (x.1))))]) (fun x=>[⟨140,2,[c.c],true,true⟩,⟨140,2,[rP 0],true,true⟩,⟨140,2,[xK c.next 3],true,true⟩,⟨199,2,x.2.map DSlot.o,true,true⟩]) (fun x=>x.1≤c.l.length∧x.2.length=x.1∧x.2++c.l.drop x.1=c.l) (fun x=>c.l.length-x.1) (0,[]) (Head.trans (Head.nilR 2 1 199 2 ⟨140,2,[rP c.next],true,true⟩ (rP c.next) rfl rfl rfl) (ABJ [(0,false),(1,true),(2,true),(3,false)] ⟨rfl,rfl,rfl,rfl,rfl,rfl,trivial⟩ rfl)) ⟨aA _,rfl,rfl⟩ ?_
 rintro⟨k,out⟩ ⟨hk,hol,hb⟩
 dsimp only at hk hol hb
 refine AOJ (fun h=>?_) fun h=>?_
 ·have hk':k<c.l.length:=by simpa using h
  rw[aG hk'] at hb
  have hr:=hc.2 _ (ax hk')
  rw[IY] at hr
  have hol2:out.length+1≤2147483648:=AOQ
  have hnr:∀ (a:Int) (l:Nat),BJ [[Cl.v (.int .i64 a),.ref l]]=false:=fun _ _=>rfl
  simp only[go_sem,AA _ hk',hk']
  refine AEN 6 8 [0,1,2,3,4,5,6,7,8,9,10,11] [7,8] rfl AP_ rfl AP_ ?_
  refine ABH ?_
  simp only[go_sem,AA _ hk',hk']
  refine ACI _ (FD c.l[k].l hr.1) ?_
  simp only[go_sem,bi,bJ,AA _ hk',hk',hol2,hnr,N_,aB,aH,wrap_i64 (n:=(k:Int)+1) AOQ AOQ]
  exact AI2
 ·have hk':k=c.l.length:=by simp at h; omega
  subst hk'
  rw[aY] at hb
  have:out=c.l:=APB
  subst this
  simp only[go_sem,ED]
  try exact AII
theorem ML (c:DChunk) (hc:EI c):Ctr prog 256 [.agg c.c] [.agg c.o]:=by
 rw[CE] at hc
 refine CM call256 func256 ntmps256 results256 fun hw=>?_
 have hlen:=hc.1
 simp only[go_sem]
 refine ABZ [8,7] (A:=Nat×List DSlot) (fun x=>[(4,.c (.v (.int .i64 (x.1)))),(3,.lp 2 0 0)]) (fun x=>[⟨140,2,[c.c],true,true⟩,⟨140,2,[rP 0],true,true⟩,⟨140,2,[xK c.next 3],true,true⟩,⟨199,2,x.2.map DSlot.o,true,true⟩]) (fun x=>x.1≤c.l.length∧x.2.length=x.1∧x.2++c.l.drop x.1=c.l) (fun x=>c.l.length-x.1) (0,[]) (ABJ [(0,false),(1,true),(3,true),(2,false)] ⟨rfl,rfl,rfl,rfl,rfl,rfl,trivial⟩ rfl) ⟨aA _,rfl,rfl⟩ ?_
 rintro⟨k,out⟩ ⟨hk,hol,hb⟩
 dsimp only at hk hol hb
 refine AOJ (fun h=>?_) fun h=>?_
 ·have hk':k<c.l.length:=by simpa using h
  rw[aG hk'] at hb
  have hr:=hc.2 _ (ax hk')
  rw[IY] at hr
  have hol2:out.length+1≤2147483648:=AOQ
  have hsl2:c.l[k].l.length≤2147483648:=by have:=hr.1; omega
  have hnr:∀ (a:Int) (l:Nat),BJ [[Cl.v (.int .i64 a),.ref l]]=false:=fun _ _=>rfl
  simp only[go_sem,AA _ hk',hk']
  refine AEN 15 17 [0,1,2,3,4,5,6,7,8,9,10,11,12,13,14,15,16,17,18,19,20] [16,17] rfl AP_ rfl AP_ ?_
  refine ABH ?_
  simp only[go_sem,AA _ hk',hk',G_,hsl2,hol2,hnr,bi,bJ,N_,aB,aH,wrap_i64 (n:=(k:Int)+1) AOQ AOQ]
  exact AI2
 ·have hk':k=c.l.length:=by simp at h; omega
  subst hk'
  rw[aY] at hb
  have:out=c.l:=APB
  subst this
  simp only[go_sem,ED]
  try exact AII
theorem NJ (l:List DBuf) (hl:fitS E8 l):Ctr prog 114 [.c (.sl (l.map DBuf.c))] [.own 142 5 (l.map DBuf.o) true]:=by
 refine CM call114 func114 ntmps114 results114 fun hw=>?_
 have hlen:=hl.1
 simp only[go_sem,ae]
 refine ABZ [6] (A:=Nat×List DBuf) (fun x=>[(9,.c (.v (.int .i64 (x.1)))),(3,.c (.ref 0))]) (fun x=>[⟨142,5,x.2.map DBuf.o,true,true⟩]) (fun x=>x.1≤l.length∧x.2.length≤x.1∧x.2++l.drop x.1=l) (fun x=>l.length-x.1) (0,[]) (ABJ [(0,false)] ⟨rfl,rfl,rfl,trivial⟩ rfl) ⟨aA _,aT _,rfl⟩ ?_
 rintro⟨k,out⟩ ⟨hk,hol,hb⟩
 dsimp only at hk hol hb
 refine AOK (fun h=>?_) fun h=>?_
 ·have hk':k<l.length:=by simpa using h
  rw[aG hk'] at hb
  have hr:=hl.2 _ (ax hk')
  rw[Fa] at hr
  have hol2:out.length+1≤2147483648:=AOQ
  have hnr:∀ (a b c:Int) (m n:Nat),BJ [[Cl.v (.int .i64 a),Cl.v (.int .i64 b),Cl.v (.int .i64 c),.ref m,.ref n]]=false:=fun _ _ _ _ _=>rfl
  simp only[go_sem,ae,AA _ hk',hk',aH]
  refine AEN 10 12 [0,1,2,3,4,5,6,7,8,9,10,11,12,13,14] [11,12] rfl AP_ rfl AP_ ?_
  refine ABH ?_
  simp only[go_sem,AA _ hk',hk']
  refine CZ (JL l[k].c0 hr.1) ?_
  simp only[go_sem,AA _ hk',hk']
  refine ACI _ (GG l[k].g (by have:=hr.2; omega)) ?_
  simp only[go_sem,bi,bJ,AA _ hk',hk',hol2,hnr,N_,aB,aH,wrap_i64 (n:=(k:Int)+1) AOQ AOQ]
  refine⟨(k+1,out ++ [l[k]]),ACJ [(5,true),(2,true),(3,false)] 1 0 ⟨rfl,rfl,Jq DBuf.o_nr _ out rfl,EY (ED _),AY byteC.pure,trivial⟩ ⟨out.length,out.map DBuf.o ++ [DBuf.o l[k]],_,DBuf.o l[k],_,⟨pX 0,rfl,Jp DBuf.o_nr _ out _ _,AOR,rfl⟩,
   ⟨rfl,rfl,rfl,rfl,rfl,rfl,rfl,rfl, ?xs,rfl, ?nr,AOk,rfl,rfl,rfl,rfl,CQ _,AOk,fun l hl=>AOg⟩,⟨rfl, ?tr⟩, ?eq⟩,⟨hk',AOS,(bT _ _ _).trans hb⟩,AOV⟩
  case xs=>exact Dx (ED _)
  case nr=>exact ED _
  case tr=>unfold BV; rw[CV]; exact allA (AU (BK _))
  case eq=>unfold BV; rw[CV,WU]; rfl
 ·have hk':k=l.length:=by simp at h; omega
  subst hk'
  rw[aY] at hb
  have:out=l:=APB
  subst this
  exact ALs
theorem l9 (b:DBuf) (hb:E8 b):Ctr prog 186 [.agg b.c] [.agg b.o]:=by
 rw[Fa] at hb
 refine CM call186 func186 ntmps186 results186 fun hw=>?_
 have hl:b.g.length≤2147483648:=by have:=hb.2; omega
 simp only[go_sem]
 refine ACQ 6 7 [0,1,2,3,4,5,6,7,8,9,10,11,12] [0,1,2,3,4,5,7,6,8,9,10,11,12] rfl AP_ AP_ ?_ ?_
 all_goals
  refine ABH ?_
  simp only[go_sem,CQ]
  refine CZ (ML b.c0 hb.1) ?_
  simp only[go_sem,F_,ae,hl,aH,CQ,ED]
  try exact AII
theorem Qg (l:List DBuf) (hl:fitS E8 l):Ctr prog 79 [.c (.sl (l.map DBuf.c))] [.own 142 5 (l.map DBuf.o) true]:=by
 refine CM call79 func79 ntmps79 results79 fun hw=>?_
 have hlen:=hl.1
 simp only[go_sem,ae]
 refine ABZ [6] (A:=Nat×List DBuf) (fun x=>[(4,.c (.v (.int .i64 (x.1)))),(3,.c (.ref 0))]) (fun x=>[⟨142,5,x.2.map DBuf.o,true,true⟩]) (fun x=>x.1≤l.length∧x.2.length≤x.1∧x.2++l.drop x.1=l) (fun x=>l.length-x.1) (0,[]) (ABJ [(0,false)] ⟨rfl,rfl,rfl,trivial⟩ rfl) ⟨aA _,aT _,rfl⟩ ?_
 rintro⟨k,out⟩ ⟨hk,hol,hb⟩
 dsimp only at hk hol hb
 refine AOK (fun h=>?_) fun h=>?_
 ·have hk':k<l.length:=by simpa using h
  rw[aG hk'] at hb
  have hr:=hl.2 _ (ax hk')
  have hol2:out.length+1≤2147483648:=AOQ
  have hnr:∀ (a b c:Int) (m n:Nat),BJ [[Cl.v (.int .i64 a),Cl.v (.int .i64 b),Cl.v (.int .i64 c),.ref m,.ref n]]=false:=fun _ _ _ _ _=>rfl
  simp only[go_sem,ae,AA _ hk',hk',aH]
  refine CW (l9 l[k] hr) fun _=>?_
  simp only[go_sem,bi,bJ,AA _ hk',hk',hol2,hnr,N_,aB,aH,wrap_i64 (n:=(k:Int)+1) AOQ AOQ]
  refine⟨(k+1,out ++ [l[k]]),ACJ [(5,true),(1,true),(2,false)] 1 0 ⟨rfl,rfl,Jq DBuf.o_nr _ out rfl,EY (ED _),AY byteC.pure,trivial⟩ ⟨out.length,out.map DBuf.o ++ [DBuf.o l[k]],_,DBuf.o l[k],_,⟨pX 0,rfl,Jp DBuf.o_nr _ out _ _,AOR,rfl⟩,
   ⟨rfl,rfl,rfl,rfl,rfl,rfl,rfl,rfl, ?xs,rfl, ?nr,AOk,rfl,rfl,rfl,rfl,CQ _,AOk,fun l hl=>AOg⟩,⟨rfl, ?tr⟩, ?eq⟩,⟨hk',AOS,(bT _ _ _).trans hb⟩,AOV⟩
  case xs=>exact Dx (ED _)
  case nr=>exact ED _
  case tr=>unfold BV; rw[CV]; exact allA (AU (BK _))
  case eq=>unfold BV; rw[CV,WU]; rfl
 ·have hk':k=l.length:=by simp at h; omega
  subst hk'
  rw[aY] at hb
  have:out=l:=APB
  subst this
  exact ALs
theorem WQ (r:DResult) (hr:KH r):Ctr prog 238 [.agg r.c] [.agg r.o]:=by
 rw[MH] at hr
 refine CM call238 func238 ntmps238 results238 fun hw=>?_
 simp only[go_sem]
 refine ABH ?_
 simp only[go_sem]
 refine CZ (Rt r.rows hr.1) ?_
 simp only[go_sem,BF]
 try exact AII
theorem Zc (r:DResult) (hr:KH r):Ctr prog 291 [.agg r.c] [.agg r.o]:=by
 rw[MH] at hr
 refine CM call291 func291 ntmps291 results291 fun hw=>?_
 simp only[go_sem]
 refine CW (iC r.rows hr.1) fun _=>?_
 simp only[go_sem,BF]
 try exact AII
def xM:List Cl:=[.v (.int .i64 0),.v (.int .i64 0),.v (.int .i64 0),.v (.int .i64 0),.v (.int .i64 0),.v (.string ByteArray.empty),.v (.slice none 0 0)]
def xN (p:DPred):List Cl:=[.v (.int .i64 p.kind),.v (.int .i64 p.col),.v (.int .i64 p.op),.v (.int .i64 p.v.ty),.v (.int .i64 p.v.n),.v (.string p.v.s),.v (.slice none 0 0)]
def xO (p:DPred) (l:Nat):List Cl:=[.v (.int .i64 p.kind),.v (.int .i64 p.col),.v (.int .i64 p.op),.v (.int .i64 p.v.ty),.v (.int .i64 p.v.n),.v (.string p.v.s),.ref l]
@[go_sem] theorem AHz:xM = [.v (.int .i64 0),.v (.int .i64 0),.v (.int .i64 0),.v (.int .i64 0),.v (.int .i64 0),.v (.string ByteArray.empty),.v (.slice none 0 0)]:=rfl
@[go_sem] theorem AH0 (p:DPred):xN p = [.v (.int .i64 p.kind),.v (.int .i64 p.col),.v (.int .i64 p.op),.v (.int .i64 p.v.ty),.v (.int .i64 p.v.n),.v (.string p.v.s),.v (.slice none 0 0)]:=rfl
@[go_sem] theorem AH1 (p:DPred) (l:Nat):xO p l = [.v (.int .i64 p.kind),.v (.int .i64 p.col),.v (.int .i64 p.op),.v (.int .i64 p.v.ty),.v (.int .i64 p.v.n),.v (.string p.v.s),.ref l]:=rfl
theorem l_ (p:DPred) (hp:BD p) (hx:∀ x∈p.l,Ctr prog 314 [.agg x.c] [.agg x.o]):Ctr prog 314 [.agg p.c] [.agg p.o]:=by
 refine CM call314 func314 ntmps314 results314 fun hw=>?_
 have hpl:p.l.length≤1048576:=APk
 simp only[go_sem]
 refine ABZ [] (A:=Nat×List DPred) (fun x=>[(18,.c (.v (.int .i64 (x.1))))]) (fun x=>[⟨67,7,[gG p],true,true⟩,⟨67,7,[xM],true,true⟩,⟨67,7,[xO p 3],true,true⟩,⟨67,7,x.2.map DPred.o,true,true⟩]) (fun x=>x.1≤p.l.length∧x.2.length=x.1∧x.2++p.l.drop x.1=p.l) (fun x=>p.l.length-x.1) (0,[]) (Head.trans (Head.nilR 2 6 67 7 ⟨67,7,[xN p],true,true⟩ (xN p) rfl rfl rfl) (ABJ [(0,false),(1,true),(2,true),(3,false)] ⟨rfl,rfl,rfl,rfl,rfl,rfl,trivial⟩ rfl)) ⟨aA _,rfl,rfl⟩ ?_
 rintro⟨k,out⟩ ⟨hk,hol,hb⟩
 dsimp only at hk hol hb
 refine AOJ (fun h=>?_) fun h=>?_
 ·have hk':k<p.l.length:=by simpa using h
  rw[aG hk'] at hb
  have hol2:out.length+1≤2147483648:=AOQ
  have hnr:∀ (a b c d e:Int) (t:ByteArray) (l:Nat),BJ [[Cl.v (.int .i64 a),Cl.v (.int .i64 b),Cl.v (.int .i64 c),Cl.v (.int .i64 d),Cl.v (.int .i64 e),Cl.v (.string t),.ref l]]=false:=fun _ _ _ _ _ _ _=>rfl
  simp only[go_sem,AA _ hk',hk']
  refine ABH ?_
  simp only[go_sem,AA _ hk',hk']
  refine CZ (hx p.l[k] (ax hk')) ?_
  simp only[go_sem,bi,bJ,AA _ hk',hk',hol2,hnr,N_,aB,aH,wrap_i64 (n:=(k:Int)+1) AOQ AOQ]
  refine⟨(k+1,out ++ [p.l[k]]),ACJ [(0,false),(1,true),(2,true),(7,true),(5,true)] 4 3 ⟨rfl,rfl,rfl,rfl,rfl,Jq DPred.o_nr _ out rfl,EY (BR _),trivial⟩ ⟨out.length,out.map DPred.o ++ [DPred.o p.l[k]],_,DPred.o p.l[k],_,⟨pX 3,rfl,Jp DPred.o_nr _ out _ _,AOR,rfl⟩,
   (by rw[DPred.o_eq]; exact⟨rfl,rfl,rfl,rfl,rfl,rfl,rfl,rfl,rfl,rfl,rfl,rfl,rfl,rfl,Dx (BR _),rfl,BR _,AOk,fun l hl=>AOg⟩),⟨rfl, ?tr⟩, ?eq⟩,⟨hk',AOS,(bT _ _ _).trans hb⟩,AOV⟩
  case tr=>unfold BV; rw[CV]; exact AEo rfl rfl rfl (AU (BR _))
  case eq=>unfold BV; rw[CV,WU]; rfl
 ·have hk':k=p.l.length:=by simp at h; omega
  subst hk'
  rw[aY] at hb
  have:out=p.l:=APB
  rw[← this]
  simp only[go_sem,BR]
  try exact AII
theorem xP (p:DPred) (hp:BD p) (hx:∀ x∈p.l,Ctr prog 289 [.agg x.c] [.agg x.o]):Ctr prog 289 [.agg p.c] [.agg p.o]:=by
 refine CM call289 func289 ntmps289 results289 fun hw=>?_
 have hpl:p.l.length≤1048576:=APk
 simp only[go_sem]
 refine ABZ [8,7] (A:=Nat×List DPred) (fun x=>[(4,.c (.v (.int .i64 (x.1))))]) (fun x=>[⟨67,7,[gG p],true,true⟩,⟨67,7,[xM],true,true⟩,⟨67,7,[xO p 3],true,true⟩,⟨67,7,x.2.map DPred.o,true,true⟩]) (fun x=>x.1≤p.l.length∧x.2.length=x.1∧x.2++p.l.drop x.1=p.l) (fun x=>p.l.length-x.1) (0,[]) (ABJ [(0,false),(1,true),(2,true),(3,false)] ⟨rfl,rfl,rfl,rfl,rfl,rfl,trivial⟩ rfl) ⟨aA _,rfl,rfl⟩ ?_
 rintro⟨k,out⟩ ⟨hk,hol,hb⟩
 dsimp only at hk hol hb
 refine AOJ (fun h=>?_) fun h=>?_
 ·have hk':k<p.l.length:=by simpa using h
  rw[aG hk'] at hb
  have hol2:out.length+1≤2147483648:=AOQ
  have hnr:∀ (a b c d e:Int) (t:ByteArray) (l:Nat),BJ [[Cl.v (.int .i64 a),Cl.v (.int .i64 b),Cl.v (.int .i64 c),Cl.v (.int .i64 d),Cl.v (.int .i64 e),Cl.v (.string t),.ref l]]=false:=fun _ _ _ _ _ _ _=>rfl
  simp only[go_sem,AA _ hk',hk']
  refine CW (hx p.l[k] (ax hk')) fun _=>?_
  simp only[go_sem,bi,bJ,AA _ hk',hk',hol2,hnr,N_,aB,aH,wrap_i64 (n:=(k:Int)+1) AOQ AOQ]
  refine⟨(k+1,out ++ [p.l[k]]),ACJ [(0,false),(1,true),(2,true),(7,true),(4,true)] 4 3 ⟨rfl,rfl,rfl,rfl,rfl,Jq DPred.o_nr _ out rfl,EY (BR _),trivial⟩ ⟨out.length,out.map DPred.o ++ [DPred.o p.l[k]],_,DPred.o p.l[k],_,⟨pX 3,rfl,Jp DPred.o_nr _ out _ _,AOR,rfl⟩,
   (by rw[DPred.o_eq]; exact⟨rfl,rfl,rfl,rfl,rfl,rfl,rfl,rfl,rfl,rfl,rfl,rfl,rfl,rfl,Dx (BR _),rfl,BR _,AOk,fun l hl=>AOg⟩),⟨rfl, ?tr⟩, ?eq⟩,⟨hk',AOS,(bT _ _ _).trans hb⟩,AOV⟩
  case tr=>unfold BV; rw[CV]; exact AEo rfl rfl rfl (AU (BR _))
  case eq=>unfold BV; rw[CV,WU]; rfl
 ·have hk':k=p.l.length:=by simp at h; omega
  subst hk'
  rw[aY] at hb
  have:out=p.l:=APB
  rw[← this]
  simp only[go_sem,BR]
  try exact AII
theorem jS {C:DPred→Prop} (h:∀ p,BD p→(∀ x∈p.l,C x)→C p):∀ (n:Nat) (p:DPred),SizeOf.sizeOf p≤n→BD p→C p:=by
 intro n
 induction n with
 | zero=>intro p h; cases p; simp at h
 | succ n ih =>
  intro p hs hp
  refine h p hp fun x hx=>ih x ?_ ?_
  ·exact AMY
  ·rw[Bg] at hp; exact hp.2.2 x hx
theorem Zd (p:DPred) (hp:BD p):Ctr prog 314 [.agg p.c] [.agg p.o]:=jS l_ _ p (aT _) hp
theorem mD (p:DPred) (hp:BD p):Ctr prog 289 [.agg p.c] [.agg p.o]:=jS xP _ p (aT _) hp
theorem SG (l:List Int):Kz 1 (l.map intC)=true:=OH (fun _=>rfl) l
theorem Jl (l:List Int) (h:l.length≤1048576):Ctr prog 112 [.c (.sl (l.map intC))] [.own 3 1 (l.map intC) true]:=by
 refine CM call112 func112 ntmps112 results112 fun hw=>?_
 have hl:l.length≤2147483648:=AOQ
 simp only[go_sem,SG,ae,hl,aH,AX]
 try simp
theorem QF (q:DQuery) (hq:Eh q):Ctr prog 236 [.agg q.c] [.agg q.o]:=by
 rw[GI] at hq
 refine CM call236 func236 ntmps236 results236 fun hw=>?_
 simp only[go_sem]
 refine ABH ?_
 simp only[go_sem]
 refine CZ (Zd q.p hq.1) ?_
 simp only[go_sem]
 refine ACI _ (Jl q.out hq.2) ?_
 simp only[go_sem,AX,BR]
 try exact AII
theorem U4 (q:DQuery) (hq:Eh q):Ctr prog 187 [.agg q.c] [.agg q.o]:=by
 rw[GI] at hq
 refine CM call187 func187 ntmps187 results187 fun hw=>?_
 have hl:q.out.length≤2147483648:=by have:=hq.2; omega
 simp only[go_sem]
 refine CW (mD q.p hq.1) fun _=>?_
 simp only[go_sem,SG,ae,hl,aH,AX,BR]
 try exact AII
theorem Ze (t:DTask) (ht:Gu t):Ctr prog 115 [.agg t.c] [.agg t.o]:=by
 rw[DR] at ht
 refine CM call115 func115 ntmps115 results115 fun hw=>?_
 simp only[go_sem]
 refine ABH ?_
 simp only[go_sem]
 refine ACI _ (FD t.r ht.1.1) ?_
 simp only[go_sem]
 refine CZ (QF t.q ht.2.1) ?_
 simp only[go_sem]
 refine ACI _ (Qe t.l ht.2.2.1) ?_
 simp only[go_sem]
 refine CZ (Rt t.got ht.2.2.2) ?_
 simp only[go_sem,AX,BR,DD,BO,BF]
 try exact AII
theorem mF (t:DTask) (ht:Gu t):Ctr prog 80 [.agg t.c] [.agg t.o]:=by
 rw[DR] at ht
 refine CM call80 func80 ntmps80 results80 fun hw=>?_
 have h1:t.r.length≤2147483648:=by have:=ht.1.1; omega
 have h2:t.l.length≤2147483648:=by have:=ht.2.2.1; omega
 simp only[go_sem,G_,ae,h1,aH]
 refine CW (U4 t.q ht.2.1) fun _=>?_
 simp only[go_sem,Om,ae,h2,aH]
 refine CW (iC t.got ht.2.2.2) fun _=>?_
 simp only[go_sem,AX,BR,DD,BO,BF]
 try exact AII
theorem Zf (d:DDeed) (hd:GK d):Ctr prog 116 [.agg d.c] [.agg d.o]:=by
 rw[IZ] at hd
 refine CM call116 func116 ntmps116 results116 fun hw=>?_
 simp only[go_sem]
 refine ABH ?_
 simp only[go_sem]
 refine ACI _ (FD d.r hd.1.1) ?_
 simp only[go_sem]
 refine CZ (QF d.q hd.2.1) ?_
 simp only[go_sem]
 refine CZ (WQ d.res hd.2.2) ?_
 simp only[go_sem,AX,BR,DD,BO,BF]
 try exact AII
theorem mG (d:DDeed) (hd:GK d):Ctr prog 189 [.agg d.c] [.agg d.o]:=by
 rw[IZ] at hd
 refine CM call189 func189 ntmps189 results189 fun hw=>?_
 have h1:d.r.length≤2147483648:=by have:=hd.1.1; omega
 simp only[go_sem,G_,ae,h1,aH]
 refine CW (U4 d.q hd.2.1) fun _=>?_
 simp only[go_sem,ae,aH]
 refine CW (Zc d.res hd.2.2) fun _=>?_
 simp only[go_sem,AX,BR,DD,BO,BF]
 try exact AII
theorem nrT {a1 a2 a3 a4 a5 a6 a7 a8 a9 b1 b2 b3 b4 b5 b6 b7 b8 b9:Int} {t1:ByteArray} {c1:Bool} {n1 n2 n3 n4 n5:Nat}:BJ [[Cl.v (.int .i64 a1),Cl.v (.int .i64 a2),Cl.v (.int .i64 a3),.ref n1,Cl.v (.int .i64 a4),Cl.v (.int .i64 a5),Cl.v (.int .i64 a6),Cl.v (.int .i64 a7),Cl.v (.int .i64 a8),Cl.v (.int .i64 a9),Cl.v (.int .i64 b1),Cl.v (.string t1),.ref n2,Cl.v (.int .i64 b2),.ref n3,Cl.v (.int .i64 b3),Cl.v (.int .i64 b4),.ref n4,Cl.v (.int .i64 b5),Cl.v (.int .i64 b6),Cl.v (.int .i64 b7),Cl.v (.int .i64 b8),Cl.v (.int .i64 b9),Cl.v (.bool c1),.ref n5]]=false:=rfl
theorem nrD {a1 a2 a3 a4 a5 a6 a7 a8 a9 b1 b2 b3 b4 b5 b6 b7 b8 b9:Int} {t1 t2:ByteArray} {c1:Bool} {n1 n2 n3 n4:Nat}:BJ [[Cl.v (.int .i64 a1),Cl.v (.int .i64 a2),.ref n1,Cl.v (.int .i64 a3),Cl.v (.int .i64 a5),Cl.v (.int .i64 a6),Cl.v (.int .i64 a7),Cl.v (.int .i64 a8),Cl.v (.int .i64 a9),Cl.v (.int .i64 b1),Cl.v (.string t1),.ref n2,Cl.v (.int .i64 b2),.ref n3,.ref n4,Cl.v (.int .i64 b3),Cl.v (.bool c1),Cl.v (.int .i64 b4),Cl.v (.int .i64 b5),Cl.v (.string t2),Cl.v (.int .i64 b6),Cl.v (.int .i64 b7),Cl.v (.int .i64 b8),Cl.v (.int .i64 b9),Cl.v (.int .i64 a4)]]=false:=rfl
theorem rQ (l:List DDeed) (hl:fitS GK l):Ctr prog 81 [.c (.sl (l.map DDeed.c))] [.own 152 25 (l.map DDeed.o) true]:=by
 refine CM call81 func81 ntmps81 results81 fun hw=>?_
 have hlen:=hl.1
 simp only[go_sem,ae]
 refine ABZ [6] (A:=Nat×List DDeed) (fun x=>[(4,.c (.v (.int .i64 (x.1)))),(3,.c (.ref 0))]) (fun x=>[⟨152,25,x.2.map DDeed.o,true,true⟩]) (fun x=>x.1≤l.length∧x.2.length≤x.1∧x.2++l.drop x.1=l) (fun x=>l.length-x.1) (0,[]) (ABJ [(0,false)] ⟨rfl,rfl,rfl,trivial⟩ rfl) ⟨aA _,aT _,rfl⟩ ?_
 rintro⟨k,out⟩ ⟨hk,hol,hb⟩
 dsimp only at hk hol hb
 refine AOK (fun h=>?_) fun h=>?_
 ·have hk':k<l.length:=by simpa using h
  rw[aG hk'] at hb
  have hr:=hl.2 _ (ax hk')
  have hol2:out.length+1≤2147483648:=AOQ
  simp only[go_sem,ae,AA _ hk',hk',aH]
  refine CW (mG l[k] hr) fun _=>?_
  simp only[go_sem,bi,bJ,AA _ hk',hk',hol2,nrD,aB,aH,wrap_i64 (n:=(k:Int)+1) AOQ AOQ]
  refine⟨(k+1,out ++ [l[k]]),ACJ [(7,true),(1,false),(2,true),(3,false),(4,true)] 1 0 ⟨rfl,rfl,Jq DDeed.o_nr _ out rfl,AY DVal.pure,EY (BR _),CX _,EY (BF _),trivial⟩ ⟨out.length,out.map DDeed.o ++ [DDeed.o l[k]],_,DDeed.o l[k],_,⟨pX 0,rfl,Jp DDeed.o_nr _ out _ _,AOR,rfl⟩,
   (by rw[DDeed.o_eq,DQuery.o_eq,DResult.o_eq,DPred.o_eq]; exact⟨rfl,rfl,rfl,rfl,rfl,rfl,rfl,rfl,DD _,AOk,rfl,rfl,rfl,rfl,rfl,rfl,rfl,rfl,rfl,rfl,rfl,rfl,rfl,rfl,rfl,rfl,rfl,rfl,Dx (BR _),rfl,BR _,AOk,rfl,rfl,rfl,rfl,rfl,rfl,AX _,AOk,rfl,rfl,Dx (BF _),rfl,BF _,AOk,rfl,rfl,rfl,rfl,rfl,rfl,rfl,rfl,rfl,rfl,rfl,rfl,rfl,rfl,rfl,rfl,rfl,rfl,rfl,rfl,fun l hl=>AOg⟩),⟨rfl, ?tr⟩, ?eq⟩,⟨hk',AOS,(bT _ _ _).trans hb⟩,AOV⟩
  case tr=>unfold BV; rw[CV]; exact allA (AU (DU _))
  case eq=>unfold BV; rw[CV,WU]; rfl
 ·have hk':k=l.length:=by simp at h; omega
  subst hk'
  rw[aY] at hb
  have:out=l:=APB
  subst this
  simp only[go_sem,DU]
  try simp
def wRow (w:DWorld) (tc dc:Cl):List Cl:=[.ref 3,.v (.int .i64 w.c0.slots),.v (.int .i64 w.c0.bufs),.v (.int .i64 w.time),.v (.int .i64 w.t),.v (.int .i64 w.e),.v (.int .i64 w.d.ver),.ref 4,.ref 5,.ref 6,.ref 7,.ref 8,tc,dc]
def zY:List Cl:=[.v (.slice none 0 0),.v (.int .i64 0),.v (.int .i64 0),.v (.int .i64 0),.v (.int .i64 0),.v (.int .i64 0),.v (.int .i64 0),.v (.slice none 0 0),.v (.slice none 0 0),.v (.slice none 0 0),.v (.slice none 0 0),.v (.slice none 0 0),.v (.slice none 0 0),.v (.slice none 0 0)]
@[go_sem] theorem AJv (w:DWorld) (tc dc:Cl):wRow w tc dc = [.ref 3,.v (.int .i64 w.c0.slots),.v (.int .i64 w.c0.bufs),.v (.int .i64 w.time),.v (.int .i64 w.t),.v (.int .i64 w.e),.v (.int .i64 w.d.ver),.ref 4,.ref 5,.ref 6,.ref 7,.ref 8,tc,dc]:=rfl
@[go_sem] theorem AIh:zY = [.v (.slice none 0 0),.v (.int .i64 0),.v (.int .i64 0),.v (.int .i64 0),.v (.int .i64 0),.v (.int .i64 0),.v (.int .i64 0),.v (.slice none 0 0),.v (.slice none 0 0),.v (.slice none 0 0),.v (.slice none 0 0),.v (.slice none 0 0),.v (.slice none 0 0),.v (.slice none 0 0)]:=rfl
theorem ACz {N:Nat} {a b c d e f g h i j:Ob} (ha:Aw N a=true) (hb:Aw N b=true) (hc:Aw N c=true) (hd:Aw N d=true) (he:Aw N e=true) (hf:Aw N f=true) (hg:Aw N g=true) (hh:Aw N h=true) (hi:Aw N i=true) (hj:Aw N j=true) : [a,b,c,d,e,f,g,h,i,j].all (Aw N)=true:=by simp[ha,hb,hc,hd,he,hf,hg,hh,hi,hj]
theorem mJ (w:DWorld) (hf:Aa w):Ctr prog 27 [.agg w.c] [.agg w.o]:=by
 rw[Ar,KJ,IG] at hf
 obtain⟨f1,f2,f3,f4,f5,f6,f7,f8⟩:=hf
 refine CM call27 func27 ntmps27 results27 fun hw=>?_
 have hlen:=f7.1
 have f1':w.c0.cols.length≤2147483648:=AOQ
 have f4':w.m.length≤2147483648:=AOQ
 have f5':w.x.length≤2147483648:=AOQ
 have f6':w.p.length≤2147483648:=AOQ
 simp only[go_sem,SG,ae,f1',aH]
 refine CW (U3 w.d f2) fun _=>?_
 simp only[go_sem]
 refine AAM _ (Qg w.b f3) fun _=>?_
 simp only[go_sem,SG,kX,ae,f4',f5',f6',aH]
 refine ABZ [4,6,7,8,9,10,11,12,13,14,15,16,17,18,19,20,21,22,23,24,25,26,27,28,29,30,31,32,33,34,35,36,37,38,39,40] (A:=Nat×List DTask) (fun x=>[(5,.c (.v (.int .i64 (x.1))))]) (fun x=>[⟨44,14,[w.c],true,true⟩,⟨44,14,[zY],true,true⟩,⟨44,14,[wRow w (.ref 9) (.sl (w.deeds.map DDeed.c))],true,true⟩,⟨3,1,w.c0.cols.map intC,true,true⟩,⟨133,5,w.d.l.map DRef.c,true,true⟩,⟨142,5,w.b.map DBuf.o,true,true⟩,⟨3,1,w.m.map intC,true,true⟩,⟨145,3,w.x.map DDead.c,true,true⟩,⟨3,1,w.p.map intC,true,true⟩,⟨72,25,x.2.map DTask.o,true,true⟩]) (fun x=>x.1≤w.tasks.length∧x.2.length≤x.1∧x.2++w.tasks.drop x.1=w.tasks) (fun x=>w.tasks.length-x.1) (0,[]) (ABJ [(0,false),(1,true),(2,true),(4,false),(5,false),(7,true),(9,false),(11,false),(13,false),(14,false)] ⟨rfl,rfl,rfl,rfl,rfl,CX _,AY DRef.pure,EY (BK _),CX _,AY DDead.pure,CX _,rfl,trivial⟩ (by show (⟨65,_,[_,_,_,_,_,⟨142,5,(w.b.map DBuf.o).map (fun x=>x.map (QP [(0,false),(1,true),(2,true),(4,false),(5,false),(7,true),(9,false),(11,false),(13,false),(14,false)])),true,true⟩,_,_,_,_]⟩:MS)=_; rw[Dx (BK w.b)]; rfl)) ⟨aA _,aT _,rfl⟩ ?_
 rintro⟨k,out⟩ ⟨hk,hol,hb⟩
 dsimp only at hk hol hb
 refine AOK (fun h=>?_) fun h=>?_
 ·have hk':k<w.tasks.length:=by simpa using h
  rw[aG hk'] at hb
  have hr:=f7.2 _ (ax hk')
  have hol2:out.length+1≤2147483648:=AOQ
  simp only[go_sem,ae,AA _ hk',hk',aH]
  refine CW (mF w.tasks[k] hr) fun _=>?_
  simp only[go_sem,bi,bJ,AA _ hk',hk',hol2,nrT,aB,aH,wrap_i64 (n:=(k:Int)+1) AOQ AOQ]
  refine⟨(k+1,out ++ [w.tasks[k]]),ACJ [(0,false),(1,true),(2,true),(3,false),(4,false),(5,true),(6,false),(7,false),(8,false),(17,true),(10,false),(11,true),(12,false),(13,false),(14,true)] 10 9 ⟨rfl,rfl,rfl,rfl,rfl,CX _,AY DRef.pure,EY (BK _),CX _,AY DDead.pure,CX _,Jq DTask.o_nr _ out rfl,AY DVal.pure,EY (BR _),CX _,AY DRef.pure,EY (BF _),trivial⟩ ⟨out.length,out.map DTask.o ++ [DTask.o w.tasks[k]],_,DTask.o w.tasks[k],_,⟨pX 9,rfl,Jp DTask.o_nr _ out _ _,AOR,rfl⟩,
   (by rw[DTask.o_eq,DQuery.o_eq,DPred.o_eq]; exact⟨rfl,rfl,rfl,rfl,rfl,rfl,rfl,rfl,rfl,rfl,DD _,AOk,rfl,rfl,rfl,rfl,rfl,rfl,rfl,rfl,rfl,rfl,rfl,rfl,rfl,rfl,rfl,rfl,rfl,rfl,Dx (BR _),rfl,BR _,AOk,rfl,rfl,rfl,rfl,rfl,rfl,AX _,AOk,rfl,rfl,rfl,rfl,rfl,rfl,rfl,rfl,BO _,AOk,rfl,rfl,rfl,rfl,rfl,rfl,rfl,rfl,rfl,rfl,rfl,rfl,rfl,rfl,Dx (BF _),rfl,BF _,AOk,fun l hl=>AOg⟩),⟨rfl, ?tr⟩, ?eq⟩,⟨hk',AOS,(bT _ _ _).trans hb⟩,AOV⟩
  case tr =>
   unfold BV
   rw[CV]
   show ([_,_,_,_,_,⟨142,5,(w.b.map DBuf.o).map (fun x=>x.map (QP [(0,false),(1,true),(2,true),(3,false),(4,false),(5,true),(6,false),(7,false),(8,false),(17,true),(10,false),(11,true),(12,false),(13,false),(14,true)])),true,true⟩,_,_,_,_]:List Ob).all (Aw 10)=true
   exact AMj
  case eq =>
   unfold BV
   rw[CV,WU]
   show (⟨65,_,[_,_,_,_,_,⟨142,5,(w.b.map DBuf.o).map (fun x=>x.map (QP [(0,false),(1,true),(2,true),(3,false),(4,false),(5,true),(6,false),(7,false),(8,false),(17,true),(10,false),(11,true),(12,false),(13,false),(14,true)])),true,true⟩,_,_,_,_]⟩:MS)=_; rw[Dx (BK w.b)]; rfl
 ·have hk':k=w.tasks.length:=by simp at h; omega
  subst hk'
  rw[aY] at hb
  have:out=w.tasks:=APB
  rw[← this]
  simp only[go_sem]
  refine AAM _ (rQ w.deeds f8) fun _=>?_
  simp only[go_sem,DU,Gw,BK,AX,BO,DY]
  try exact AII
@[go_sem] theorem AGr (k:Nat):Region.binds Region.Mode.any { on:=k,ground:=Ground.textOnly Departure.lateStores }=false:=rfl
@[go_sem] theorem AEp (k:Nat):Region.binds Region.Mode.any { on:=k,ground:=Ground.textOnly Departure.lateStoresUnsure }=false:=rfl
def AF7 (w:DWorld):List Cl:=[.ref 2,.v (.int .i64 w.c0.slots),.v (.int .i64 w.c0.bufs),.v (.int .i64 w.time),.v (.int .i64 w.t),.v (.int .i64 w.e),.v (.int .i64 w.d.ver),.ref 4,.ref 5,.ref 6,.ref 8,.ref 9,.v (.slice none 0 0),.v (.slice none 0 0)]
theorem AIi {N:Nat} {a b c d e f g h i j k:Ob} (h1 : [a,b,c,d,e,f,g,h,i,j].all (Aw N)=true) (h2:Aw N k=true) : [a,b,c,d,e,f,g,h,i,j,k].all (Aw N)=true:=by simp only[bi,bJ,aN,ay] at h1 ⊢; simp[h1,h2]
theorem Lm (w:DWorld) (hf:Aa w):Ctr prog 41 [.agg w.c] [.agg w.o]:=by
 rw[Ar,KJ,IG] at hf
 obtain⟨f1,f2,f3,f4,f5,f6,f7,f8⟩:=hf
 refine CM call41 func41 ntmps41 results41 fun hw=>?_
 have hlen:=f7.1
 have hlen2:=f8.1
 have f5':w.x.length≤2147483648:=AOQ
 simp only[go_sem]
 refine ACU 18 3 AP_ ?_
 simp only[go_sem]
 refine ACI _ (Jl w.c0.cols f1) ?_
 simp only[go_sem]
 refine ABH ?_
 simp only[go_sem]
 refine CZ (TK w.d f2) ?_
 simp only[go_sem]
 refine ACI _ (NJ w.b f3) ?_
 simp only[go_sem]
 refine ACI _ (Jl w.m f4) ?_
 simp only[go_sem]
 refine ABH ?_
 simp only[go_sem,kX,ae,f5',aH]
 refine ACI _ (Jl w.p f6) ?_
 simp only[go_sem]
 refine ABZ [8,9,10,11,12,13,14,15,16,17,18,19,20,21,22,23,24,25,26,27,28,29,30,31,32,33,34,35,36,37,38,39,40,41,42,43,44,45,46,47] (A:=Nat×List DTask) (fun x=>[(50,.c (.v (.int .i64 (x.1)))),(3,.lp 2 0 0)]) (fun x=>[⟨44,14,[w.c],true,true⟩,⟨44,14,[zY],true,true⟩,⟨44,14,[wRow w (.ref 9) (.v (.slice none 0 0))],true,true⟩,⟨3,1,w.c0.cols.map intC,true,true⟩,⟨133,5,w.d.l.map DRef.c,true,true⟩,⟨142,5,w.b.map DBuf.o,true,true⟩,⟨3,1,w.m.map intC,true,true⟩,⟨145,3,w.x.map DDead.c,true,true⟩,⟨3,1,w.p.map intC,true,true⟩,⟨72,25,x.2.map DTask.o,true,true⟩]) (fun x=>x.1≤w.tasks.length∧x.2.length≤x.1∧x.2++w.tasks.drop x.1=w.tasks) (fun x=>w.tasks.length-x.1) (0,[]) (Head.trans (Head.nilR 3 12 72 25 ⟨44,14,[AF7 w],true,true⟩ (AF7 w) rfl rfl rfl) (ABJ [(0,false),(1,true),(3,true),(2,false),(4,false),(5,true),(6,false),(8,false),(9,false),(10,false)] ⟨rfl,rfl,rfl,rfl,rfl,CX _,AY DRef.pure,EY (BK _),CX _,AY DDead.pure,CX _,rfl,trivial⟩ (by show (⟨78,_,[_,_,_,_,_,⟨142,5,(w.b.map DBuf.o).map (fun x=>x.map (QP [(0,false),(1,true),(3,true),(2,false),(4,false),(5,true),(6,false),(8,false),(9,false),(10,false)])),true,true⟩,_,_,_,_]⟩:MS)=_; rw[Dx (BK w.b)]; rfl))) ⟨aA _,aT _,rfl⟩ ?_
 ·rintro⟨k,out⟩ ⟨hk,hol,hb⟩
  dsimp only at hk hol hb
  refine AOK (fun h=>?_) fun h=>?_
  ·have hk':k<w.tasks.length:=by simpa using h
   rw[aG hk'] at hb
   have hr:=f7.2 _ (ax hk')
   have hol2:out.length+1≤2147483648:=AOQ
   simp only[go_sem,ae,AA _ hk',hk',aH]
   refine ABH ?_
   simp only[go_sem,AA _ hk',hk']
   refine CZ (Ze w.tasks[k] hr) ?_
   simp only[go_sem,bi,bJ,AA _ hk',hk',hol2,nrT,aB,aH,wrap_i64 (n:=(k:Int)+1) AOQ AOQ]
   refine⟨(k+1,out ++ [w.tasks[k]]),ACJ [(0,false),(1,true),(2,true),(3,false),(4,false),(5,true),(6,false),(7,false),(8,false),(17,true),(11,false),(12,true),(13,false),(14,false),(15,true)] 10 9 ⟨rfl,rfl,rfl,rfl,rfl,CX _,AY DRef.pure,EY (BK _),CX _,AY DDead.pure,CX _,Jq DTask.o_nr _ out rfl,AY DVal.pure,EY (BR _),CX _,AY DRef.pure,EY (BF _),trivial⟩ ⟨out.length,out.map DTask.o ++ [DTask.o w.tasks[k]],_,DTask.o w.tasks[k],_,⟨pX 9,rfl,Jp DTask.o_nr _ out _ _,AOR,rfl⟩,
    (by rw[DTask.o_eq,DQuery.o_eq,DPred.o_eq]; exact⟨rfl,rfl,rfl,rfl,rfl,rfl,rfl,rfl,rfl,rfl,DD _,AOk,rfl,rfl,rfl,rfl,rfl,rfl,rfl,rfl,rfl,rfl,rfl,rfl,rfl,rfl,rfl,rfl,rfl,rfl,Dx (BR _),rfl,BR _,AOk,rfl,rfl,rfl,rfl,rfl,rfl,AX _,AOk,rfl,rfl,rfl,rfl,rfl,rfl,rfl,rfl,BO _,AOk,rfl,rfl,rfl,rfl,rfl,rfl,rfl,rfl,rfl,rfl,rfl,rfl,rfl,rfl,Dx (BF _),rfl,BF _,AOk,fun l hl=>AOg⟩),⟨rfl, ?tr⟩, ?eq⟩,⟨hk',AOS,(bT _ _ _).trans hb⟩,AOV⟩
   case tr =>
    unfold BV
    rw[CV]
    show ([_,_,_,_,_,⟨142,5,(w.b.map DBuf.o).map (fun x=>x.map (QP [(0,false),(1,true),(2,true),(3,false),(4,false),(5,true),(6,false),(7,false),(8,false),(17,true),(11,false),(12,true),(13,false),(14,false),(15,true)])),true,true⟩,_,_,_,_]:List Ob).all (Aw 10)=true
    exact AMj
   case eq =>
    unfold BV
    rw[CV,WU]
    show (⟨78,_,[_,_,_,_,_,⟨142,5,(w.b.map DBuf.o).map (fun x=>x.map (QP [(0,false),(1,true),(2,true),(3,false),(4,false),(5,true),(6,false),(7,false),(8,false),(17,true),(11,false),(12,true),(13,false),(14,false),(15,true)])),true,true⟩,_,_,_,_]⟩:MS)=_; rw[Dx (BK w.b)]; rfl
  ·have hk':k=w.tasks.length:=by simp at h; omega
   subst hk'
   rw[aY] at hb
   have:out=w.tasks:=APB
   rw[this]
   simp only[go_sem]
   refine ABZ [] (A:=Nat×List DDeed) (fun x=>[(65,.c (.v (.int .i64 (x.1))))]) (fun x=>[⟨44,14,[w.c],true,true⟩,⟨44,14,[zY],true,true⟩,⟨44,14,[wRow w (.ref 9) (.ref 10)],true,true⟩,⟨3,1,w.c0.cols.map intC,true,true⟩,⟨133,5,w.d.l.map DRef.c,true,true⟩,⟨142,5,w.b.map DBuf.o,true,true⟩,⟨3,1,w.m.map intC,true,true⟩,⟨145,3,w.x.map DDead.c,true,true⟩,⟨3,1,w.p.map intC,true,true⟩,⟨72,25,w.tasks.map DTask.o,true,true⟩,⟨152,25,x.2.map DDeed.o,true,true⟩]) (fun x=>x.1≤w.deeds.length∧x.2.length≤x.1∧x.2++w.deeds.drop x.1=w.deeds) (fun x=>w.deeds.length-x.1) (0,[]) (Head.trans (Head.nilR 2 13 152 25 ⟨44,14,[wRow w (.ref 9) (.v (.slice none 0 0))],true,true⟩ (wRow w (.ref 9) (.v (.slice none 0 0))) rfl rfl rfl) (ABJ [(0,false),(1,true),(2,true),(3,false),(4,false),(5,true),(6,false),(7,false),(8,false),(9,true),(10,false)] ⟨rfl,rfl,rfl,rfl,rfl,CX _,AY DRef.pure,EY (BK _),CX _,AY DDead.pure,CX _,EY (Gw _),rfl,trivial⟩ (by show (⟨78,_,[_,_,_,_,_,⟨142,5,(w.b.map DBuf.o).map (fun x=>x.map (QP [(0,false),(1,true),(2,true),(3,false),(4,false),(5,true),(6,false),(7,false),(8,false),(9,true),(10,false)])),true,true⟩,_,_,_,⟨72,25,(w.tasks.map DTask.o).map (fun x=>x.map (QP [(0,false),(1,true),(2,true),(3,false),(4,false),(5,true),(6,false),(7,false),(8,false),(9,true),(10,false)])),true,true⟩,_]⟩:MS)=_; rw[Dx (BK w.b),Dx (Gw w.tasks)]; rfl))) ⟨aA _,aT _,rfl⟩ ?_
   clear hb hol hk h this out
   rintro⟨k,out⟩ ⟨hk,hol,hb⟩
   dsimp only at hk hol hb
   refine AOK (fun h=>?_) fun h=>?_
   ·have hk':k<w.deeds.length:=by simpa using h
    rw[aG hk'] at hb
    have hr:=f8.2 _ (ax hk')
    have hol2:out.length+1≤2147483648:=AOQ
    simp only[go_sem,ae,AA _ hk',hk',aH]
    refine ABH ?_
    simp only[go_sem,AA _ hk',hk']
    refine CZ (Zf w.deeds[k] hr) ?_
    simp only[go_sem,bi,bJ,AA _ hk',hk',hol2,nrD,aB,aH,wrap_i64 (n:=(k:Int)+1) AOQ AOQ]
    refine⟨(k+1,out ++ [w.deeds[k]]),ACJ [(0,false),(1,true),(2,true),(3,false),(4,false),(5,true),(6,false),(7,false),(8,false),(9,true),(17,true),(12,false),(13,true),(14,false),(15,true)] 11 10 ⟨rfl,rfl,rfl,rfl,rfl,CX _,AY DRef.pure,EY (BK _),CX _,AY DDead.pure,CX _,EY (Gw _),Jq DDeed.o_nr _ out rfl,AY DVal.pure,EY (BR _),CX _,EY (BF _),trivial⟩ ⟨out.length,out.map DDeed.o ++ [DDeed.o w.deeds[k]],_,DDeed.o w.deeds[k],_,⟨pX 10,rfl,Jp DDeed.o_nr _ out _ _,AOR,rfl⟩,
     (by rw[DDeed.o_eq,DQuery.o_eq,DResult.o_eq,DPred.o_eq]; exact⟨rfl,rfl,rfl,rfl,rfl,rfl,rfl,rfl,DD _,AOk,rfl,rfl,rfl,rfl,rfl,rfl,rfl,rfl,rfl,rfl,rfl,rfl,rfl,rfl,rfl,rfl,rfl,rfl,Dx (BR _),rfl,BR _,AOk,rfl,rfl,rfl,rfl,rfl,rfl,AX _,AOk,rfl,rfl,Dx (BF _),rfl,BF _,AOk,rfl,rfl,rfl,rfl,rfl,rfl,rfl,rfl,rfl,rfl,rfl,rfl,rfl,rfl,rfl,rfl,rfl,rfl,rfl,rfl,fun l hl=>AOg⟩),⟨rfl, ?tr⟩, ?eq⟩,⟨hk',AOS,(bT _ _ _).trans hb⟩,AOV⟩
    case tr =>
     unfold BV
     rw[CV]
     show ([_,_,_,_,_,⟨142,5,(w.b.map DBuf.o).map (fun x=>x.map (QP [(0,false),(1,true),(2,true),(3,false),(4,false),(5,true),(6,false),(7,false),(8,false),(9,true),(17,true),(12,false),(13,true),(14,false),(15,true)])),true,true⟩,_,_,_,⟨72,25,(w.tasks.map DTask.o).map (fun x=>x.map (QP [(0,false),(1,true),(2,true),(3,false),(4,false),(5,true),(6,false),(7,false),(8,false),(9,true),(17,true),(12,false),(13,true),(14,false),(15,true)])),true,true⟩,_]:List Ob).all (Aw 11)=true
     rw[Dx (BK w.b),Dx (Gw w.tasks)]
     exact AIi (ACz rfl rfl rfl (AU (AX _)) (AU (BO _)) (AU (BK _)) (AU (AX _)) (AU (DY _)) (AU (AX _)) (AU (Gw _))) (AU (DU _))
    case eq =>
     unfold BV
     rw[CV,WU]
     show (⟨78,_,[_,_,_,_,_,⟨142,5,(w.b.map DBuf.o).map (fun x=>x.map (QP [(0,false),(1,true),(2,true),(3,false),(4,false),(5,true),(6,false),(7,false),(8,false),(9,true),(17,true),(12,false),(13,true),(14,false),(15,true)])),true,true⟩,_,_,_,⟨72,25,(w.tasks.map DTask.o).map (fun x=>x.map (QP [(0,false),(1,true),(2,true),(3,false),(4,false),(5,true),(6,false),(7,false),(8,false),(9,true),(17,true),(12,false),(13,true),(14,false),(15,true)])),true,true⟩,_]⟩:MS)=_; rw[Dx (BK w.b),Dx (Gw w.tasks)]; rfl
   ·have hk':k=w.deeds.length:=by simp at h; omega
    subst hk'
    rw[aY] at hb
    have:out=w.deeds:=APB
    rw[this]
    simp only[go_sem,DU,Gw,BK,AX,BO,DY]
    try exact AII
def gone (g:Int):DBuf:=⟨g,0,⟨0,[]⟩,[]⟩
def Oo (l:List DBuf) (i:Int):List DBuf:=if h:0≤i∧i.toNat<l.length then(if(l[i.toNat]'h.2).kind != 0 then l.set i.toNat (gone (IntKind.i64.wrap ((l[i.toNat]'h.2).gen+1))) else l) else l
theorem WR {l:List DBuf} {i:Int} (h:¬ (0≤i∧i<l.length)):Oo l i=l:=by unfold Oo; rw[dif_neg AOQ]
theorem U5 {l:List DBuf} {m:Nat} (h:m<l.length):Oo l (m:Int)=if l[m].kind != 0 then l.set m (gone (IntKind.i64.wrap (l[m].gen+1))) else l:=by
 unfold Oo
 rw[dif_pos ⟨AOQ,AOz⟩]
 rfl
theorem Head.same (s:MS):Head s s:=⟨rfl,fun _ _ _ _ _ _ h=>⟨_,_,h⟩⟩
theorem PV (l:List DBuf) (i:Int) (hl:fitS E8 l):Ctr prog 321 [.c (.sl (l.map DBuf.c)),.c (.v (.int .i64 (i)))] [.own 142 5 ((Oo l i).map DBuf.o) true]:=by
 refine AC2 call321 func321 rfl mixed ntmps321 results321 AP_ rfl fun hw=>?_
 simp only[go_sem]
 refine AAM _ (NJ l hl) fun _=>?_
 simp only[go_sem,ae]
 rcases h1:decide (i≥0) with _ | _
 ·have hw:=WR (l:=l) (i:=i) (fun h=>APS)
  simp only[go_sem,ae,h1,hw,BK]
  exact ALf
 rcases h2:decide (i<(l.length:Int)) with _ | _
 ·have hw:=WR (l:=l) (i:=i) (fun h=>AOh)
  simp only[go_sem,ae,h1,h2,hw,BK]
  exact ALf
 obtain⟨m,rfl⟩:∃ m:Nat,i=m:=⟨i.toNat,APS⟩
 have hm:m<l.length:=APG
 rcases h3:(l[m].kind != 0) with _ | _
 ·have hw:Oo l (m:Int)=l:=by rw[U5 hm,h3]; rfl
  simp only[go_sem,ae,h1,h2,h3,AA _ hm,hm,hw]
  exact ALf
 have hw:Oo l (m:Int)=l.set m (gone (IntKind.i64.wrap (l[m].gen+1))):=by rw[U5 hm,h3]; rfl
 simp only[go_sem,ae,h1,h2,h3,AA _ hm,hm,hw]
 refine AEL (t:=⟨35,[(4,.c (.ref 0))],[⟨142,5,(l.set m (gone (IntKind.i64.wrap (l[m].gen+1)))).map DBuf.o,true,true⟩]⟩) ?h ?post
 case h =>
  exact AK9
 case post =>
  exact ALs
theorem Zg (l:List DBuf) (i:Int) (hl:fitS E8 l):Ctr prog 320 [.c (.sl (l.map DBuf.c)),.c (.v (.int .i64 (i)))] [.own 142 5 ((Oo l i).map DBuf.o) true]:=by
 refine AC2 call320 func320 rfl mixed ntmps320 results320 AP_ rfl fun hw=>?_
 have hlen:=hl.1
 simp only[go_sem]
 refine AAM _ (Qg l hl) fun _=>?_
 simp only[go_sem,ae,wrap_i64 (n:=(l.length:Int)-1) AOQ AOQ]
 refine AAM _ (AO i 0 _) fun _=>?_
 rcases h1:Ad i 0 ((l.length:Int)-1) with _ | _
 ·have hw:=WR (l:=l) (i:=i) (fun h=>AO4)
  simp only[go_sem,ae,h1,hw,BK]
  exact ALf
 have h1':0≤i∧i≤(l.length:Int)-1:=by simpa [Ad] using h1
 obtain⟨m,rfl⟩:∃ m:Nat,i=m:=⟨i.toNat,AOQ⟩
 have hm:m<l.length:=AOQ
 rcases h3:(l[m].kind != 0) with _ | _
 ·have hw:Oo l (m:Int)=l:=by rw[U5 hm,h3]; rfl
  simp only[go_sem,ae,h1,h3,AA _ hm,hm,hw]
  exact ALf
 have hw:Oo l (m:Int)=l.set m (gone (IntKind.i64.wrap (l[m].gen+1))):=by rw[U5 hm,h3]; rfl
 simp only[go_sem,ae,h1,h3,AA _ hm,hm,hw]
 refine AEL (t:=⟨32,[(4,.c (.ref 0))],[⟨142,5,(l.set m (gone (IntKind.i64.wrap (l[m].gen+1)))).map DBuf.o,true,true⟩]⟩) ?h ?post
 case h =>
  exact AK9
 case post =>
  exact ALs
end Go.Proofs.YtnoldekcdlaahaaGreat
