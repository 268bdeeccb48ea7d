/- A part. -/
import Derived.Test.YtnoldekcdlaahaaGreatZi
import Derived.Test.YtnoldekcdlaahaaGreatZc
import Derived.Test.YtnoldekcdlaahaaGreatAa
import Derived.Test.YtnoldekcdlaahaaGreatZp
set_option linter.unusedSimpArgs false
set_option linter.unusedVariables false
set_option maxHeartbeats 8000000
set_option maxRecDepth 10000
open Go.Proofs.Tryz
namespace Go.Proofs.YtnoldekcdlaahaaGreat
open Go.Vm
theorem nX (b:DBuf) (hb:IE b):Ctr prog 186 [.agg b.c] [.agg b.o]:=by
 rw[H9] at hb
 refine CM call186 func186 ntmps186 results186 fun hw=>?_
 have hl:b.g.length≤2147483648:=by have:=hb.2; omega
 simp only[go_sem]
 refine AC1 6 7 [0,1,2,3,4,5,6,7,8,9,10,11,12] [0,1,2,3,4,5,7,6,8,9,10,11,12] rfl (by kernel_rfl) (by kernel_rfl) ?_ ?_
 all_goals
  refine ABU ?_
  simp only[go_sem,Bv]
  refine CZ (WV b.c0 hb.1) ?_
  simp only[go_sem,F5,ae,hl,aI,Bv,FO]
  try exact AIj
theorem X8 (l:List DBuf) (hl:fitS IE l):Ctr prog 79 [.c (.sl (l.map DBuf.c))] [.own 142 5 (l.map DBuf.o) true]:=by
 refine CM call79 func79 ntmps79 results79 fun hw=>?_
 have hlen:=hl.1
 simp only[go_sem,ae]
 refine AB6 [6] (A:=Nat×List DBuf) (fun x=>[(4,.c (.v (.int .i64 (x.1)))),(3,.c (.ref 0))]) (fun x=>[⟨142,5,x.2.map DBuf.o,true,true⟩]) (fun x=>x.1≤l.length∧x.2.length≤x.1∧x.2++l.drop x.1=l) (fun x=>l.length-x.1) (0,[]) (AB3 [(0,false)] ⟨rfl,rfl,rfl,trivial⟩ rfl) ⟨az _,aT _,rfl⟩ ?_
 rintro⟨k,out⟩ ⟨hk,hol,hb⟩
 dsimp only at hk hol hb
 refine AOc (fun h=>?_) fun h=>?_
 ·have hk':k<l.length:=by simpa using h
  rw[aG hk'] at hb
  have hr:=hl.2 _ (ax hk')
  have hol2:out.length+1≤2147483648:=AOh
  have hnr:∀ (a b c:Int) (m n:Nat),DI [[Cl.v (.int .i64 a),Cl.v (.int .i64 b),Cl.v (.int .i64 c),.ref m,.ref n]]=false:=fun _ _ _ _ _=>rfl
  simp only[go_sem,ae,AA _ hk',hk',aI]
  refine CW (nX l[k] hr) fun _=>?_
  simp only[go_sem,bC,bU,AA _ hk',hk',hol2,hnr,N8,aC,aI,wrap_i64 (n:=(k:Int)+1) AOh AOh]
  refine⟨(k+1,out ++ [l[k]]),ACS [(5,true),(1,true),(2,false)] 1 0 ⟨rfl,rfl,Jz DBuf.o_nr _ out rfl,Ec (FO _),AY byteC.pure,trivial⟩ ⟨out.length,out.map DBuf.o ++ [DBuf.o l[k]],_,DBuf.o l[k],_,⟨kL 0,rfl,Jy DBuf.o_nr _ out _ _,AOi,rfl⟩,
   ⟨rfl,rfl,rfl,rfl,rfl,rfl,rfl,rfl, ?xs,rfl, ?nr,AO1,rfl,rfl,rfl,rfl,Bv _,AO1,fun l hl=>AOv⟩,⟨rfl, ?tr⟩, ?eq⟩,⟨hk',AOj,(bM _ _ _).trans hb⟩,AOl⟩
  case xs=>exact Dz (FO _)
  case nr=>exact FO _
  case tr=>unfold BO; rw[B_]; exact allA (AU (BG _))
  case eq=>unfold BO; rw[B_,XC]; rfl
 ·have hk':k=l.length:=by simp at h; omega
  subst hk'
  rw[aV] at hb
  have:out=l:=APO
  subst this
  exact AMF
theorem Wu (r:DResult) (hr:KT r):Ctr prog 238 [.agg r.c] [.agg r.o]:=by
 rw[MV] at hr
 refine CM call238 func238 ntmps238 results238 fun hw=>?_
 simp only[go_sem]
 refine ABU ?_
 simp only[go_sem]
 refine CZ (Rq r.rows hr.1) ?_
 simp only[go_sem,BF]
 try exact AIj
theorem Z5 (r:DResult) (hr:KT r):Ctr prog 291 [.agg r.c] [.agg r.o]:=by
 rw[MV] at hr
 refine CM call291 func291 ntmps291 results291 fun hw=>?_
 simp only[go_sem]
 refine CW (iP r.rows hr.1) fun _=>?_
 simp only[go_sem,BF]
 try exact AIj
def yY:List Cl:=[.v (.int .i64 0),.v (.int .i64 0),.v (.int .i64 0),.v (.int .i64 0),.v (.int .i64 0),.v (.string ByteArray.empty),.v (.slice none 0 0)]
def yZ (p:DPred):List Cl:=[.v (.int .i64 p.kind),.v (.int .i64 p.col),.v (.int .i64 p.op),.v (.int .i64 p.v.ty),.v (.int .i64 p.v.n),.v (.string p.v.s),.v (.slice none 0 0)]
def yc (p:DPred) (l:Nat):List Cl:=[.v (.int .i64 p.kind),.v (.int .i64 p.col),.v (.int .i64 p.op),.v (.int .i64 p.v.ty),.v (.int .i64 p.v.n),.v (.string p.v.s),.ref l]
@[go_sem] theorem AIW:yY = [.v (.int .i64 0),.v (.int .i64 0),.v (.int .i64 0),.v (.int .i64 0),.v (.int .i64 0),.v (.string ByteArray.empty),.v (.slice none 0 0)]:=rfl
@[go_sem] theorem AIX (p:DPred):yZ p = [.v (.int .i64 p.kind),.v (.int .i64 p.col),.v (.int .i64 p.op),.v (.int .i64 p.v.ty),.v (.int .i64 p.v.n),.v (.string p.v.s),.v (.slice none 0 0)]:=rfl
@[go_sem] theorem AIY (p:DPred) (l:Nat):yc p l = [.v (.int .i64 p.kind),.v (.int .i64 p.col),.v (.int .i64 p.op),.v (.int .i64 p.v.ty),.v (.int .i64 p.v.n),.v (.string p.v.s),.ref l]:=rfl
theorem nY (p:DPred) (hp:A_ p) (hx:∀ x∈p.l,Ctr prog 314 [.agg x.c] [.agg x.o]):Ctr prog 314 [.agg p.c] [.agg p.o]:=by
 refine CM call314 func314 ntmps314 results314 fun hw=>?_
 have hpl:p.l.length≤1048576:=APr
 simp only[go_sem]
 refine AB6 [] (A:=Nat×List DPred) (fun x=>[(18,.c (.v (.int .i64 (x.1))))]) (fun x=>[⟨67,7,[iO p],true,true⟩,⟨67,7,[yY],true,true⟩,⟨67,7,[yc p 3],true,true⟩,⟨67,7,x.2.map DPred.o,true,true⟩]) (fun x=>x.1≤p.l.length∧x.2.length=x.1∧x.2++p.l.drop x.1=p.l) (fun x=>p.l.length-x.1) (0,[]) (Head.trans (Head.nilR 2 6 67 7 ⟨67,7,[yZ p],true,true⟩ (yZ p) rfl rfl rfl) (AB3 [(0,false),(1,true),(2,true),(3,false)] ⟨rfl,rfl,rfl,rfl,rfl,rfl,trivial⟩ rfl)) ⟨az _,rfl,rfl⟩ ?_
 rintro⟨k,out⟩ ⟨hk,hol,hb⟩
 dsimp only at hk hol hb
 refine AOb (fun h=>?_) fun h=>?_
 ·have hk':k<p.l.length:=by simpa using h
  rw[aG hk'] at hb
  have hol2:out.length+1≤2147483648:=AOh
  have hnr:∀ (a b c d e:Int) (t:ByteArray) (l:Nat),DI [[Cl.v (.int .i64 a),Cl.v (.int .i64 b),Cl.v (.int .i64 c),Cl.v (.int .i64 d),Cl.v (.int .i64 e),Cl.v (.string t),.ref l]]=false:=fun _ _ _ _ _ _ _=>rfl
  simp only[go_sem,AA _ hk',hk']
  refine ABU ?_
  simp only[go_sem,AA _ hk',hk']
  refine CZ (hx p.l[k] (ax hk')) ?_
  simp only[go_sem,bC,bU,AA _ hk',hk',hol2,hnr,N8,aC,aI,wrap_i64 (n:=(k:Int)+1) AOh AOh]
  refine⟨(k+1,out ++ [p.l[k]]),ACS [(0,false),(1,true),(2,true),(7,true),(5,true)] 4 3 ⟨rfl,rfl,rfl,rfl,rfl,Jz DPred.o_nr _ out rfl,Ec (BL _),trivial⟩ ⟨out.length,out.map DPred.o ++ [DPred.o p.l[k]],_,DPred.o p.l[k],_,⟨kL 3,rfl,Jy DPred.o_nr _ out _ _,AOi,rfl⟩,
   (by rw[DPred.o_eq]; exact⟨rfl,rfl,rfl,rfl,rfl,rfl,rfl,rfl,rfl,rfl,rfl,rfl,rfl,rfl,Dz (BL _),rfl,BL _,AO1,fun l hl=>AOv⟩),⟨rfl, ?tr⟩, ?eq⟩,⟨hk',AOj,(bM _ _ _).trans hb⟩,AOl⟩
  case tr=>unfold BO; rw[B_]; exact AGP rfl rfl rfl (AU (BL _))
  case eq=>unfold BO; rw[B_,XC]; rfl
 ·have hk':k=p.l.length:=by simp at h; omega
  subst hk'
  rw[aV] at hb
  have:out=p.l:=APO
  rw[← this]
  simp only[go_sem,BL]
  try exact AIj
theorem yf (p:DPred) (hp:A_ p) (hx:∀ x∈p.l,Ctr prog 289 [.agg x.c] [.agg x.o]):Ctr prog 289 [.agg p.c] [.agg p.o]:=by
 refine CM call289 func289 ntmps289 results289 fun hw=>?_
 have hpl:p.l.length≤1048576:=APr
 simp only[go_sem]
 refine AB6 [8,7] (A:=Nat×List DPred) (fun x=>[(4,.c (.v (.int .i64 (x.1))))]) (fun x=>[⟨67,7,[iO p],true,true⟩,⟨67,7,[yY],true,true⟩,⟨67,7,[yc p 3],true,true⟩,⟨67,7,x.2.map DPred.o,true,true⟩]) (fun x=>x.1≤p.l.length∧x.2.length=x.1∧x.2++p.l.drop x.1=p.l) (fun x=>p.l.length-x.1) (0,[]) (AB3 [(0,false),(1,true),(2,true),(3,false)] ⟨rfl,rfl,rfl,rfl,rfl,rfl,trivial⟩ rfl) ⟨az _,rfl,rfl⟩ ?_
 rintro⟨k,out⟩ ⟨hk,hol,hb⟩
 dsimp only at hk hol hb
 refine AOb (fun h=>?_) fun h=>?_
 ·have hk':k<p.l.length:=by simpa using h
  rw[aG hk'] at hb
  have hol2:out.length+1≤2147483648:=AOh
  have hnr:∀ (a b c d e:Int) (t:ByteArray) (l:Nat),DI [[Cl.v (.int .i64 a),Cl.v (.int .i64 b),Cl.v (.int .i64 c),Cl.v (.int .i64 d),Cl.v (.int .i64 e),Cl.v (.string t),.ref l]]=false:=fun _ _ _ _ _ _ _=>rfl
  simp only[go_sem,AA _ hk',hk']
  refine CW (hx p.l[k] (ax hk')) fun _=>?_
  simp only[go_sem,bC,bU,AA _ hk',hk',hol2,hnr,N8,aC,aI,wrap_i64 (n:=(k:Int)+1) AOh AOh]
  refine⟨(k+1,out ++ [p.l[k]]),ACS [(0,false),(1,true),(2,true),(7,true),(4,true)] 4 3 ⟨rfl,rfl,rfl,rfl,rfl,Jz DPred.o_nr _ out rfl,Ec (BL _),trivial⟩ ⟨out.length,out.map DPred.o ++ [DPred.o p.l[k]],_,DPred.o p.l[k],_,⟨kL 3,rfl,Jy DPred.o_nr _ out _ _,AOi,rfl⟩,
   (by rw[DPred.o_eq]; exact⟨rfl,rfl,rfl,rfl,rfl,rfl,rfl,rfl,rfl,rfl,rfl,rfl,rfl,rfl,Dz (BL _),rfl,BL _,AO1,fun l hl=>AOv⟩),⟨rfl, ?tr⟩, ?eq⟩,⟨hk',AOj,(bM _ _ _).trans hb⟩,AOl⟩
  case tr=>unfold BO; rw[B_]; exact AGP rfl rfl rfl (AU (BL _))
  case eq=>unfold BO; rw[B_,XC]; rfl
 ·have hk':k=p.l.length:=by simp at h; omega
  subst hk'
  rw[aV] at hb
  have:out=p.l:=APO
  rw[← this]
  simp only[go_sem,BL]
  try exact AIj
theorem kE {C:DPred→Prop} (h:∀ p,A_ p→(∀ x∈p.l,C x)→C p):∀ (n:Nat) (p:DPred),SizeOf.sizeOf p≤n→A_ p→C p:=by
 intro n
 induction n with
 | zero=>intro p h; cases p; simp at h
 | succ n ih =>
  intro p hs hp
  refine h p hp fun x hx=>ih x ?_ ?_
  ·exact AMq
  ·rw[BP] at hp; exact hp.2.2 x hx
theorem Z7 (p:DPred) (hp:A_ p):Ctr prog 314 [.agg p.c] [.agg p.o]:=kE nY _ p (aT _) hp
theorem nZ (p:DPred) (hp:A_ p):Ctr prog 289 [.agg p.c] [.agg p.o]:=kE yf _ p (aT _) hp
theorem Sr (l:List Int):LG 1 (l.map intC)=true:=OY (fun _=>rfl) l
theorem Jq (l:List Int) (h:l.length≤1048576):Ctr prog 112 [.c (.sl (l.map intC))] [.own 3 1 (l.map intC) true]:=by
 refine CM call112 func112 ntmps112 results112 fun hw=>?_
 have hl:l.length≤2147483648:=AOh
 simp only[go_sem,Sr,ae,hl,aI,AQ]
 try simp
theorem QY (q:DQuery) (hq:Ee q):Ctr prog 236 [.agg q.c] [.agg q.o]:=by
 rw[F9] at hq
 refine CM call236 func236 ntmps236 results236 fun hw=>?_
 simp only[go_sem]
 refine ABU ?_
 simp only[go_sem]
 refine CZ (Z7 q.p hq.1) ?_
 simp only[go_sem]
 refine ACJ _ (Jq q.out hq.2) ?_
 simp only[go_sem,AQ,BL]
 try exact AIj
theorem U9 (q:DQuery) (hq:Ee q):Ctr prog 187 [.agg q.c] [.agg q.o]:=by
 rw[F9] at hq
 refine CM call187 func187 ntmps187 results187 fun hw=>?_
 have hl:q.out.length≤2147483648:=by have:=hq.2; omega
 simp only[go_sem]
 refine CW (nZ q.p hq.1) fun _=>?_
 simp only[go_sem,Sr,ae,hl,aI,AQ,BL]
 try exact AIj
theorem Z8 (t:DTask) (ht:GG t):Ctr prog 115 [.agg t.c] [.agg t.o]:=by
 rw[EC] at ht
 refine CM call115 func115 ntmps115 results115 fun hw=>?_
 simp only[go_sem]
 refine ABU ?_
 simp only[go_sem]
 refine ACJ _ (Gx t.r ht.1.1) ?_
 simp only[go_sem]
 refine CZ (QY t.q ht.2.1) ?_
 simp only[go_sem]
 refine ACJ _ (Rz t.l ht.2.2.1) ?_
 simp only[go_sem]
 refine CZ (Rq t.got ht.2.2.2) ?_
 simp only[go_sem,AQ,BL,DD,Ba,BF]
 try exact AIj
theorem U_ (t:DTask) (ht:GG t):Ctr prog 80 [.agg t.c] [.agg t.o]:=by
 rw[EC] at ht
 refine CM call80 func80 ntmps80 results80 fun hw=>?_
 have h1:t.r.length≤2147483648:=by have:=ht.1.1; omega
 have h2:t.l.length≤2147483648:=by have:=ht.2.2.1; omega
 simp only[go_sem,Io,ae,h1,aI]
 refine CW (U9 t.q ht.2.1) fun _=>?_
 simp only[go_sem,iw,ae,h2,aI]
 refine CW (iP t.got ht.2.2.2) fun _=>?_
 simp only[go_sem,AQ,BL,DD,Ba,BF]
 try exact AIj
theorem Z9 (d:DDeed) (hd:Fj d):Ctr prog 116 [.agg d.c] [.agg d.o]:=by
 rw[Hg] at hd
 refine CM call116 func116 ntmps116 results116 fun hw=>?_
 simp only[go_sem]
 refine ABU ?_
 simp only[go_sem]
 refine ACJ _ (Gx d.r hd.1.1) ?_
 simp only[go_sem]
 refine CZ (QY d.q hd.2.1) ?_
 simp only[go_sem]
 refine CZ (Wu d.res hd.2.2) ?_
 simp only[go_sem,AQ,BL,DD,Ba,BF]
 try exact AIj
theorem VA (d:DDeed) (hd:Fj d):Ctr prog 189 [.agg d.c] [.agg d.o]:=by
 rw[Hg] at hd
 refine CM call189 func189 ntmps189 results189 fun hw=>?_
 have h1:d.r.length≤2147483648:=by have:=hd.1.1; omega
 simp only[go_sem,Io,ae,h1,aI]
 refine CW (U9 d.q hd.2.1) fun _=>?_
 simp only[go_sem,ae,aI]
 refine CW (Z5 d.res hd.2.2) fun _=>?_
 simp only[go_sem,AQ,BL,DD,Ba,BF]
 try exact AIj
theorem nrT {a1 a2 a3 a4 a5 a6 a7 a8 a9 b1 b2 b3 b4 b5 b6 b7 b8 b9:Int} {t1:ByteArray} {c1:Bool} {n1 n2 n3 n4 n5:Nat}:DI [[Cl.v (.int .i64 a1),Cl.v (.int .i64 a2),Cl.v (.int .i64 a3),.ref n1,Cl.v (.int .i64 a4),Cl.v (.int .i64 a5),Cl.v (.int .i64 a6),Cl.v (.int .i64 a7),Cl.v (.int .i64 a8),Cl.v (.int .i64 a9),Cl.v (.int .i64 b1),Cl.v (.string t1),.ref n2,Cl.v (.int .i64 b2),.ref n3,Cl.v (.int .i64 b3),Cl.v (.int .i64 b4),.ref n4,Cl.v (.int .i64 b5),Cl.v (.int .i64 b6),Cl.v (.int .i64 b7),Cl.v (.int .i64 b8),Cl.v (.int .i64 b9),Cl.v (.bool c1),.ref n5]]=false:=rfl
theorem nrD {a1 a2 a3 a4 a5 a6 a7 a8 a9 b1 b2 b3 b4 b5 b6 b7 b8 b9:Int} {t1 t2:ByteArray} {c1:Bool} {n1 n2 n3 n4:Nat}:DI [[Cl.v (.int .i64 a1),Cl.v (.int .i64 a2),.ref n1,Cl.v (.int .i64 a3),Cl.v (.int .i64 a5),Cl.v (.int .i64 a6),Cl.v (.int .i64 a7),Cl.v (.int .i64 a8),Cl.v (.int .i64 a9),Cl.v (.int .i64 b1),Cl.v (.string t1),.ref n2,Cl.v (.int .i64 b2),.ref n3,.ref n4,Cl.v (.int .i64 b3),Cl.v (.bool c1),Cl.v (.int .i64 b4),Cl.v (.int .i64 b5),Cl.v (.string t2),Cl.v (.int .i64 b6),Cl.v (.int .i64 b7),Cl.v (.int .i64 b8),Cl.v (.int .i64 b9),Cl.v (.int .i64 a4)]]=false:=rfl
theorem tu (l:List DDeed) (hl:fitS Fj l):Ctr prog 81 [.c (.sl (l.map DDeed.c))] [.own 152 25 (l.map DDeed.o) true]:=by
 refine CM call81 func81 ntmps81 results81 fun hw=>?_
 have hlen:=hl.1
 simp only[go_sem,ae]
 refine AB6 [6] (A:=Nat×List DDeed) (fun x=>[(4,.c (.v (.int .i64 (x.1)))),(3,.c (.ref 0))]) (fun x=>[⟨152,25,x.2.map DDeed.o,true,true⟩]) (fun x=>x.1≤l.length∧x.2.length≤x.1∧x.2++l.drop x.1=l) (fun x=>l.length-x.1) (0,[]) (AB3 [(0,false)] ⟨rfl,rfl,rfl,trivial⟩ rfl) ⟨az _,aT _,rfl⟩ ?_
 rintro⟨k,out⟩ ⟨hk,hol,hb⟩
 dsimp only at hk hol hb
 refine AOc (fun h=>?_) fun h=>?_
 ·have hk':k<l.length:=by simpa using h
  rw[aG hk'] at hb
  have hr:=hl.2 _ (ax hk')
  have hol2:out.length+1≤2147483648:=AOh
  simp only[go_sem,ae,AA _ hk',hk',aI]
  refine CW (VA l[k] hr) fun _=>?_
  simp only[go_sem,bC,bU,AA _ hk',hk',hol2,nrD,aC,aI,wrap_i64 (n:=(k:Int)+1) AOh AOh]
  refine⟨(k+1,out ++ [l[k]]),ACS [(7,true),(1,false),(2,true),(3,false),(4,true)] 1 0 ⟨rfl,rfl,Jz DDeed.o_nr _ out rfl,AY DVal.pure,Ec (BL _),CB _,Ec (BF _),trivial⟩ ⟨out.length,out.map DDeed.o ++ [DDeed.o l[k]],_,DDeed.o l[k],_,⟨kL 0,rfl,Jy DDeed.o_nr _ out _ _,AOi,rfl⟩,
   (by rw[DDeed.o_eq,DQuery.o_eq,DResult.o_eq,DPred.o_eq]; exact⟨rfl,rfl,rfl,rfl,rfl,rfl,rfl,rfl,DD _,AO1,rfl,rfl,rfl,rfl,rfl,rfl,rfl,rfl,rfl,rfl,rfl,rfl,rfl,rfl,rfl,rfl,rfl,rfl,Dz (BL _),rfl,BL _,AO1,rfl,rfl,rfl,rfl,rfl,rfl,AQ _,AO1,rfl,rfl,Dz (BF _),rfl,BF _,AO1,rfl,rfl,rfl,rfl,rfl,rfl,rfl,rfl,rfl,rfl,rfl,rfl,rfl,rfl,rfl,rfl,rfl,rfl,rfl,rfl,fun l hl=>AOv⟩),⟨rfl, ?tr⟩, ?eq⟩,⟨hk',AOj,(bM _ _ _).trans hb⟩,AOl⟩
  case tr=>unfold BO; rw[B_]; exact allA (AU (Cc _))
  case eq=>unfold BO; rw[B_,XC]; rfl
 ·have hk':k=l.length:=by simp at h; omega
  subst hk'
  rw[aV] at hb
  have:out=l:=APO
  subst this
  simp only[go_sem,Cc]
  try simp
def wRow (w:DWorld) (tc dc:Cl):List Cl:=[.ref 3,.v (.int .i64 w.c0.slots),.v (.int .i64 w.c0.bufs),.v (.int .i64 w.time),.v (.int .i64 w.t),.v (.int .i64 w.e),.v (.int .i64 w.d.ver),.ref 4,.ref 5,.ref 6,.ref 7,.ref 8,tc,dc]
def AAf:List Cl:=[.v (.slice none 0 0),.v (.int .i64 0),.v (.int .i64 0),.v (.int .i64 0),.v (.int .i64 0),.v (.int .i64 0),.v (.int .i64 0),.v (.slice none 0 0),.v (.slice none 0 0),.v (.slice none 0 0),.v (.slice none 0 0),.v (.slice none 0 0),.v (.slice none 0 0),.v (.slice none 0 0)]
@[go_sem] theorem AKT (w:DWorld) (tc dc:Cl):wRow w tc dc = [.ref 3,.v (.int .i64 w.c0.slots),.v (.int .i64 w.c0.bufs),.v (.int .i64 w.time),.v (.int .i64 w.t),.v (.int .i64 w.e),.v (.int .i64 w.d.ver),.ref 4,.ref 5,.ref 6,.ref 7,.ref 8,tc,dc]:=rfl
@[go_sem] theorem AJR:AAf = [.v (.slice none 0 0),.v (.int .i64 0),.v (.int .i64 0),.v (.int .i64 0),.v (.int .i64 0),.v (.int .i64 0),.v (.int .i64 0),.v (.slice none 0 0),.v (.slice none 0 0),.v (.slice none 0 0),.v (.slice none 0 0),.v (.slice none 0 0),.v (.slice none 0 0),.v (.slice none 0 0)]:=rfl
theorem ADb {N:Nat} {a b c d e f g h i j:Ob} (ha:BD N a=true) (hb:BD N b=true) (hc:BD N c=true) (hd:BD N d=true) (he:BD N e=true) (hf:BD N f=true) (hg:BD N g=true) (hh:BD N h=true) (hi:BD N i=true) (hj:BD N j=true) : [a,b,c,d,e,f,g,h,i,j].all (BD N)=true:=by simp[ha,hb,hc,hd,he,hf,hg,hh,hi,hj]
theorem ET (w:DWorld) (hf:AX w):Ctr prog 27 [.agg w.c] [.agg w.o]:=by
 rw[A8,IZ,H_] at hf
 obtain⟨f1,f2,f3,f4,f5,f6,f7,f8⟩:=hf
 refine CM call27 func27 ntmps27 results27 fun hw=>?_
 have hlen:=f7.1
 have f1':w.c0.cols.length≤2147483648:=AOh
 have f4':w.m.length≤2147483648:=AOh
 have f5':w.x.length≤2147483648:=AOh
 have f6':w.p.length≤2147483648:=AOh
 simp only[go_sem,Sr,ae,f1',aI]
 refine CW (ql w.d f2) fun _=>?_
 simp only[go_sem]
 refine AAT _ (X8 w.b f3) fun _=>?_
 simp only[go_sem,Sr,Xn,ae,f4',f5',f6',aI]
 refine AB6 [4,6,7,8,9,10,11,12,13,14,15,16,17,18,19,20,21,22,23,24,25,26,27,28,29,30,31,32,33,34,35,36,37,38,39,40] (A:=Nat×List DTask) (fun x=>[(5,.c (.v (.int .i64 (x.1))))]) (fun x=>[⟨44,14,[w.c],true,true⟩,⟨44,14,[AAf],true,true⟩,⟨44,14,[wRow w (.ref 9) (.sl (w.deeds.map DDeed.c))],true,true⟩,⟨3,1,w.c0.cols.map intC,true,true⟩,⟨133,5,w.d.l.map DRef.c,true,true⟩,⟨142,5,w.b.map DBuf.o,true,true⟩,⟨3,1,w.m.map intC,true,true⟩,⟨145,3,w.x.map DDead.c,true,true⟩,⟨3,1,w.p.map intC,true,true⟩,⟨72,25,x.2.map DTask.o,true,true⟩]) (fun x=>x.1≤w.tasks.length∧x.2.length≤x.1∧x.2++w.tasks.drop x.1=w.tasks) (fun x=>w.tasks.length-x.1) (0,[]) (AB3 [(0,false),(1,true),(2,true),(4,false),(5,false),(7,true),(9,false),(11,false),(13,false),(14,false)] ⟨rfl,rfl,rfl,rfl,rfl,CB _,AY DRef.pure,Ec (BG _),CB _,AY DDead.pure,CB _,rfl,trivial⟩ (by show (⟨65,_,[_,_,_,_,_,⟨142,5,(w.b.map DBuf.o).map (fun x=>x.map (TU [(0,false),(1,true),(2,true),(4,false),(5,false),(7,true),(9,false),(11,false),(13,false),(14,false)])),true,true⟩,_,_,_,_]⟩:MS)=_; rw[Dz (BG w.b)]; rfl)) ⟨az _,aT _,rfl⟩ ?_
 rintro⟨k,out⟩ ⟨hk,hol,hb⟩
 dsimp only at hk hol hb
 refine AOc (fun h=>?_) fun h=>?_
 ·have hk':k<w.tasks.length:=by simpa using h
  rw[aG hk'] at hb
  have hr:=f7.2 _ (ax hk')
  have hol2:out.length+1≤2147483648:=AOh
  simp only[go_sem,ae,AA _ hk',hk',aI]
  refine CW (U_ w.tasks[k] hr) fun _=>?_
  simp only[go_sem,bC,bU,AA _ hk',hk',hol2,nrT,aC,aI,wrap_i64 (n:=(k:Int)+1) AOh AOh]
  refine⟨(k+1,out ++ [w.tasks[k]]),ACS [(0,false),(1,true),(2,true),(3,false),(4,false),(5,true),(6,false),(7,false),(8,false),(17,true),(10,false),(11,true),(12,false),(13,false),(14,true)] 10 9 ⟨rfl,rfl,rfl,rfl,rfl,CB _,AY DRef.pure,Ec (BG _),CB _,AY DDead.pure,CB _,Jz DTask.o_nr _ out rfl,AY DVal.pure,Ec (BL _),CB _,AY DRef.pure,Ec (BF _),trivial⟩ ⟨out.length,out.map DTask.o ++ [DTask.o w.tasks[k]],_,DTask.o w.tasks[k],_,⟨kL 9,rfl,Jy DTask.o_nr _ out _ _,AOi,rfl⟩,
   (by rw[DTask.o_eq,DQuery.o_eq,DPred.o_eq]; exact⟨rfl,rfl,rfl,rfl,rfl,rfl,rfl,rfl,rfl,rfl,DD _,AO1,rfl,rfl,rfl,rfl,rfl,rfl,rfl,rfl,rfl,rfl,rfl,rfl,rfl,rfl,rfl,rfl,rfl,rfl,Dz (BL _),rfl,BL _,AO1,rfl,rfl,rfl,rfl,rfl,rfl,AQ _,AO1,rfl,rfl,rfl,rfl,rfl,rfl,rfl,rfl,Ba _,AO1,rfl,rfl,rfl,rfl,rfl,rfl,rfl,rfl,rfl,rfl,rfl,rfl,rfl,rfl,Dz (BF _),rfl,BF _,AO1,fun l hl=>AOv⟩),⟨rfl, ?tr⟩, ?eq⟩,⟨hk',AOj,(bM _ _ _).trans hb⟩,AOl⟩
  case tr =>
   unfold BO
   rw[B_]
   show ([_,_,_,_,_,⟨142,5,(w.b.map DBuf.o).map (fun x=>x.map (TU [(0,false),(1,true),(2,true),(3,false),(4,false),(5,true),(6,false),(7,false),(8,false),(17,true),(10,false),(11,true),(12,false),(13,false),(14,true)])),true,true⟩,_,_,_,_]:List Ob).all (BD 10)=true
   exact AM5
  case eq =>
   unfold BO
   rw[B_,XC]
   show (⟨65,_,[_,_,_,_,_,⟨142,5,(w.b.map DBuf.o).map (fun x=>x.map (TU [(0,false),(1,true),(2,true),(3,false),(4,false),(5,true),(6,false),(7,false),(8,false),(17,true),(10,false),(11,true),(12,false),(13,false),(14,true)])),true,true⟩,_,_,_,_]⟩:MS)=_; rw[Dz (BG w.b)]; rfl
 ·have hk':k=w.tasks.length:=by simp at h; omega
  subst hk'
  rw[aV] at hb
  have:out=w.tasks:=APO
  rw[← this]
  simp only[go_sem]
  refine AAT _ (tu w.deeds f8) fun _=>?_
  simp only[go_sem,Cc,Gp,BG,AQ,Ba,Bj]
  try exact AIj
@[go_sem] theorem AHX (k:Nat):Region.binds Region.Mode.any { on:=k,ground:=Ground.textOnly Departure.lateStores }=false:=rfl
@[go_sem] theorem AFK (k:Nat):Region.binds Region.Mode.any { on:=k,ground:=Ground.textOnly Departure.lateStoresUnsure }=false:=rfl
def AGV (w:DWorld):List Cl:=[.ref 2,.v (.int .i64 w.c0.slots),.v (.int .i64 w.c0.bufs),.v (.int .i64 w.time),.v (.int .i64 w.t),.v (.int .i64 w.e),.v (.int .i64 w.d.ver),.ref 4,.ref 5,.ref 6,.ref 8,.ref 9,.v (.slice none 0 0),.v (.slice none 0 0)]
theorem AJS {N:Nat} {a b c d e f g h i j k:Ob} (h1 : [a,b,c,d,e,f,g,h,i,j].all (BD N)=true) (h2:BD N k=true) : [a,b,c,d,e,f,g,h,i,j,k].all (BD N)=true:=by simp only[bC,bU,aS,ay] at h1 ⊢; simp[h1,h2]
theorem Di (w:DWorld) (hf:AX w):Ctr prog 41 [.agg w.c] [.agg w.o]:=by
 rw[A8,IZ,H_] at hf
 obtain⟨f1,f2,f3,f4,f5,f6,f7,f8⟩:=hf
 refine CM call41 func41 ntmps41 results41 fun hw=>?_
 have hlen:=f7.1
 have hlen2:=f8.1
 have f5':w.x.length≤2147483648:=AOh
 simp only[go_sem]
 refine AC5 18 3 (by kernel_rfl) ?_
 simp only[go_sem]
 refine ACJ _ (Jq w.c0.cols f1) ?_
 simp only[go_sem]
 refine ABU ?_
 simp only[go_sem]
 refine CZ (jm w.d f2) ?_
 simp only[go_sem]
 refine ACJ _ (R_ w.b f3) ?_
 simp only[go_sem]
 refine ACJ _ (Jq w.m f4) ?_
 simp only[go_sem]
 refine ABU ?_
 simp only[go_sem,Xn,ae,f5',aI]
 refine ACJ _ (Jq w.p f6) ?_
 simp only[go_sem]
 refine AB6 [8,9,10,11,12,13,14,15,16,17,18,19,20,21,22,23,24,25,26,27,28,29,30,31,32,33,34,35,36,37,38,39,40,41,42,43,44,45,46,47] (A:=Nat×List DTask) (fun x=>[(50,.c (.v (.int .i64 (x.1)))),(3,.lp 2 0 0)]) (fun x=>[⟨44,14,[w.c],true,true⟩,⟨44,14,[AAf],true,true⟩,⟨44,14,[wRow w (.ref 9) (.v (.slice none 0 0))],true,true⟩,⟨3,1,w.c0.cols.map intC,true,true⟩,⟨133,5,w.d.l.map DRef.c,true,true⟩,⟨142,5,w.b.map DBuf.o,true,true⟩,⟨3,1,w.m.map intC,true,true⟩,⟨145,3,w.x.map DDead.c,true,true⟩,⟨3,1,w.p.map intC,true,true⟩,⟨72,25,x.2.map DTask.o,true,true⟩]) (fun x=>x.1≤w.tasks.length∧x.2.length≤x.1∧x.2++w.tasks.drop x.1=w.tasks) (fun x=>w.tasks.length-x.1) (0,[]) (Head.trans (Head.nilR 3 12 72 25 ⟨44,14,[AGV w],true,true⟩ (AGV w) rfl rfl rfl) (AB3 [(0,false),(1,true),(3,true),(2,false),(4,false),(5,true),(6,false),(8,false),(9,false),(10,false)] ⟨rfl,rfl,rfl,rfl,rfl,CB _,AY DRef.pure,Ec (BG _),CB _,AY DDead.pure,CB _,rfl,trivial⟩ (by show (⟨78,_,[_,_,_,_,_,⟨142,5,(w.b.map DBuf.o).map (fun x=>x.map (TU [(0,false),(1,true),(3,true),(2,false),(4,false),(5,true),(6,false),(8,false),(9,false),(10,false)])),true,true⟩,_,_,_,_]⟩:MS)=_; rw[Dz (BG w.b)]; rfl))) ⟨az _,aT _,rfl⟩ ?_
 ·rintro⟨k,out⟩ ⟨hk,hol,hb⟩
  dsimp only at hk hol hb
  refine AOc (fun h=>?_) fun h=>?_
  ·have hk':k<w.tasks.length:=by simpa using h
   rw[aG hk'] at hb
   have hr:=f7.2 _ (ax hk')
   have hol2:out.length+1≤2147483648:=AOh
   simp only[go_sem,ae,AA _ hk',hk',aI]
   refine ABU ?_
   simp only[go_sem,AA _ hk',hk']
   refine CZ (Z8 w.tasks[k] hr) ?_
   simp only[go_sem,bC,bU,AA _ hk',hk',hol2,nrT,aC,aI,wrap_i64 (n:=(k:Int)+1) AOh AOh]
   refine⟨(k+1,out ++ [w.tasks[k]]),ACS [(0,false),(1,true),(2,true),(3,false),(4,false),(5,true),(6,false),(7,false),(8,false),(17,true),(11,false),(12,true),(13,false),(14,false),(15,true)] 10 9 ⟨rfl,rfl,rfl,rfl,rfl,CB _,AY DRef.pure,Ec (BG _),CB _,AY DDead.pure,CB _,Jz DTask.o_nr _ out rfl,AY DVal.pure,Ec (BL _),CB _,AY DRef.pure,Ec (BF _),trivial⟩ ⟨out.length,out.map DTask.o ++ [DTask.o w.tasks[k]],_,DTask.o w.tasks[k],_,⟨kL 9,rfl,Jy DTask.o_nr _ out _ _,AOi,rfl⟩,
    (by rw[DTask.o_eq,DQuery.o_eq,DPred.o_eq]; exact⟨rfl,rfl,rfl,rfl,rfl,rfl,rfl,rfl,rfl,rfl,DD _,AO1,rfl,rfl,rfl,rfl,rfl,rfl,rfl,rfl,rfl,rfl,rfl,rfl,rfl,rfl,rfl,rfl,rfl,rfl,Dz (BL _),rfl,BL _,AO1,rfl,rfl,rfl,rfl,rfl,rfl,AQ _,AO1,rfl,rfl,rfl,rfl,rfl,rfl,rfl,rfl,Ba _,AO1,rfl,rfl,rfl,rfl,rfl,rfl,rfl,rfl,rfl,rfl,rfl,rfl,rfl,rfl,Dz (BF _),rfl,BF _,AO1,fun l hl=>AOv⟩),⟨rfl, ?tr⟩, ?eq⟩,⟨hk',AOj,(bM _ _ _).trans hb⟩,AOl⟩
   case tr =>
    unfold BO
    rw[B_]
    show ([_,_,_,_,_,⟨142,5,(w.b.map DBuf.o).map (fun x=>x.map (TU [(0,false),(1,true),(2,true),(3,false),(4,false),(5,true),(6,false),(7,false),(8,false),(17,true),(11,false),(12,true),(13,false),(14,false),(15,true)])),true,true⟩,_,_,_,_]:List Ob).all (BD 10)=true
    exact AM5
   case eq =>
    unfold BO
    rw[B_,XC]
    show (⟨78,_,[_,_,_,_,_,⟨142,5,(w.b.map DBuf.o).map (fun x=>x.map (TU [(0,false),(1,true),(2,true),(3,false),(4,false),(5,true),(6,false),(7,false),(8,false),(17,true),(11,false),(12,true),(13,false),(14,false),(15,true)])),true,true⟩,_,_,_,_]⟩:MS)=_; rw[Dz (BG w.b)]; rfl
  ·have hk':k=w.tasks.length:=by simp at h; omega
   subst hk'
   rw[aV] at hb
   have:out=w.tasks:=APO
   rw[this]
   simp only[go_sem]
   refine AB6 [] (A:=Nat×List DDeed) (fun x=>[(65,.c (.v (.int .i64 (x.1))))]) (fun x=>[⟨44,14,[w.c],true,true⟩,⟨44,14,[AAf],true,true⟩,⟨44,14,[wRow w (.ref 9) (.ref 10)],true,true⟩,⟨3,1,w.c0.cols.map intC,true,true⟩,⟨133,5,w.d.l.map DRef.c,true,true⟩,⟨142,5,w.b.map DBuf.o,true,true⟩,⟨3,1,w.m.map intC,true,true⟩,⟨145,3,w.x.map DDead.c,true,true⟩,⟨3,1,w.p.map intC,true,true⟩,⟨72,25,w.tasks.map DTask.o,true,true⟩,⟨152,25,x.2.map DDeed.o,true,true⟩]) (fun x=>x.1≤w.deeds.length∧x.2.length≤x.1∧x.2++w.deeds.drop x.1=w.deeds) (fun x=>w.deeds.length-x.1) (0,[]) (Head.trans (Head.nilR 2 13 152 25 ⟨44,14,[wRow w (.ref 9) (.v (.slice none 0 0))],true,true⟩ (wRow w (.ref 9) (.v (.slice none 0 0))) rfl rfl rfl) (AB3 [(0,false),(1,true),(2,true),(3,false),(4,false),(5,true),(6,false),(7,false),(8,false),(9,true),(10,false)] ⟨rfl,rfl,rfl,rfl,rfl,CB _,AY DRef.pure,Ec (BG _),CB _,AY DDead.pure,CB _,Ec (Gp _),rfl,trivial⟩ (by show (⟨78,_,[_,_,_,_,_,⟨142,5,(w.b.map DBuf.o).map (fun x=>x.map (TU [(0,false),(1,true),(2,true),(3,false),(4,false),(5,true),(6,false),(7,false),(8,false),(9,true),(10,false)])),true,true⟩,_,_,_,⟨72,25,(w.tasks.map DTask.o).map (fun x=>x.map (TU [(0,false),(1,true),(2,true),(3,false),(4,false),(5,true),(6,false),(7,false),(8,false),(9,true),(10,false)])),true,true⟩,_]⟩:MS)=_; rw[Dz (BG w.b),Dz (Gp w.tasks)]; rfl))) ⟨az _,aT _,rfl⟩ ?_
   clear hb hol hk h this out
   rintro⟨k,out⟩ ⟨hk,hol,hb⟩
   dsimp only at hk hol hb
   refine AOc (fun h=>?_) fun h=>?_
   ·have hk':k<w.deeds.length:=by simpa using h
    rw[aG hk'] at hb
    have hr:=f8.2 _ (ax hk')
    have hol2:out.length+1≤2147483648:=AOh
    simp only[go_sem,ae,AA _ hk',hk',aI]
    refine ABU ?_
    simp only[go_sem,AA _ hk',hk']
    refine CZ (Z9 w.deeds[k] hr) ?_
    simp only[go_sem,bC,bU,AA _ hk',hk',hol2,nrD,aC,aI,wrap_i64 (n:=(k:Int)+1) AOh AOh]
    refine⟨(k+1,out ++ [w.deeds[k]]),ACS [(0,false),(1,true),(2,true),(3,false),(4,false),(5,true),(6,false),(7,false),(8,false),(9,true),(17,true),(12,false),(13,true),(14,false),(15,true)] 11 10 ⟨rfl,rfl,rfl,rfl,rfl,CB _,AY DRef.pure,Ec (BG _),CB _,AY DDead.pure,CB _,Ec (Gp _),Jz DDeed.o_nr _ out rfl,AY DVal.pure,Ec (BL _),CB _,Ec (BF _),trivial⟩ ⟨out.length,out.map DDeed.o ++ [DDeed.o w.deeds[k]],_,DDeed.o w.deeds[k],_,⟨kL 10,rfl,Jy DDeed.o_nr _ out _ _,AOi,rfl⟩,
     (by rw[DDeed.o_eq,DQuery.o_eq,DResult.o_eq,DPred.o_eq]; exact⟨rfl,rfl,rfl,rfl,rfl,rfl,rfl,rfl,DD _,AO1,rfl,rfl,rfl,rfl,rfl,rfl,rfl,rfl,rfl,rfl,rfl,rfl,rfl,rfl,rfl,rfl,rfl,rfl,Dz (BL _),rfl,BL _,AO1,rfl,rfl,rfl,rfl,rfl,rfl,AQ _,AO1,rfl,rfl,Dz (BF _),rfl,BF _,AO1,rfl,rfl,rfl,rfl,rfl,rfl,rfl,rfl,rfl,rfl,rfl,rfl,rfl,rfl,rfl,rfl,rfl,rfl,rfl,rfl,fun l hl=>AOv⟩),⟨rfl, ?tr⟩, ?eq⟩,⟨hk',AOj,(bM _ _ _).trans hb⟩,AOl⟩
    case tr =>
     unfold BO
     rw[B_]
     show ([_,_,_,_,_,⟨142,5,(w.b.map DBuf.o).map (fun x=>x.map (TU [(0,false),(1,true),(2,true),(3,false),(4,false),(5,true),(6,false),(7,false),(8,false),(9,true),(17,true),(12,false),(13,true),(14,false),(15,true)])),true,true⟩,_,_,_,⟨72,25,(w.tasks.map DTask.o).map (fun x=>x.map (TU [(0,false),(1,true),(2,true),(3,false),(4,false),(5,true),(6,false),(7,false),(8,false),(9,true),(17,true),(12,false),(13,true),(14,false),(15,true)])),true,true⟩,_]:List Ob).all (BD 11)=true
     rw[Dz (BG w.b),Dz (Gp w.tasks)]
     exact AJS (ADb rfl rfl rfl (AU (AQ _)) (AU (Ba _)) (AU (BG _)) (AU (AQ _)) (AU (Bj _)) (AU (AQ _)) (AU (Gp _))) (AU (Cc _))
    case eq =>
     unfold BO
     rw[B_,XC]
     show (⟨78,_,[_,_,_,_,_,⟨142,5,(w.b.map DBuf.o).map (fun x=>x.map (TU [(0,false),(1,true),(2,true),(3,false),(4,false),(5,true),(6,false),(7,false),(8,false),(9,true),(17,true),(12,false),(13,true),(14,false),(15,true)])),true,true⟩,_,_,_,⟨72,25,(w.tasks.map DTask.o).map (fun x=>x.map (TU [(0,false),(1,true),(2,true),(3,false),(4,false),(5,true),(6,false),(7,false),(8,false),(9,true),(17,true),(12,false),(13,true),(14,false),(15,true)])),true,true⟩,_]⟩:MS)=_; rw[Dz (BG w.b),Dz (Gp w.tasks)]; rfl
   ·have hk':k=w.deeds.length:=by simp at h; omega
    subst hk'
    rw[aV] at hb
    have:out=w.deeds:=APO
    rw[this]
    simp only[go_sem,Cc,Gp,BG,AQ,Ba,Bj]
    try exact AIj
end Go.Proofs.YtnoldekcdlaahaaGreat
namespace Go.Vm
open Go.RowKit
variable {P:Program} {w0:Bs} {St0 St:Nat→Nat→Prop} {β:Nat→Option Nat} {s:MS} {a:Act} {w:World}
theorem Head.close (l0 i:Nat) (used:List Nat) {ob:Ob} {row row':List Cl} (hob:DT s.st l0=some ob) (hrw:ob.xs[i]?=some row) (hwr:ob.wr=true) (hl0:l0∉used)
  (ho:OwnL s.st row row' [l0] fun us=>∀ l∈us,l=l0∨l∈used):Head s ⟨s.n,s.env,Ar used l0 i row' ob s.st⟩:=⟨rfl,fun w0 St0 St β a w h=>⟨_,_,h.closeRow hob hrw hwr hl0 ho⟩⟩
theorem ACy {P:Program} {s:MS} {f:FuncId} {args:List AV} {dst:Option Nat} {K:MS→Prop} {A B C:Prop} (y:AV) (st':List Ob) (h:InlS P f s.st args y st') (hk:K (MS.put ⟨s.n,s.env,st'⟩ dst y)):PK A (PK B (PK C (InlK P f s args dst K))):=
 .inr (.inr (.inr ⟨h.1,fun w0 St0 St β a w us h1 h2=>(h.2 w0 St0 St β s a w us rfl h1 h2).mono fun e w' ⟨u,e1,St',β',q1,q2⟩=>⟨u,e1,⟨s.n,s.env,st'⟩,y,rfl,hk,St',β',q1,q2⟩⟩))
theorem EndH.self {P:Program} {s:MS} {vars:List ResultVar} {rs:List Res} (hp:Post P vars rs s):EndH P vars rs .ret s:=⟨s,⟨rfl,fun _ _ _ _ _ _ h=>⟨_,_,h⟩⟩,hp⟩
theorem EndH.close {P:Program} {s:MS} {vars:List ResultVar} {rs:List Res} (l0 i:Nat) (used:List Nat) {ob:Ob} {row row':List Cl} (hob:DT s.st l0=some ob) (hrw:ob.xs[i]?=some row) (hwr:ob.wr=true) (hl0:l0∉used)
  (ho:OwnL s.st row row' [l0] fun us=>∀ l∈us,l=l0∨l∈used) (hk:EndH P vars rs .ret ⟨s.n,s.env,Ar used l0 i row' ob s.st⟩):EndH P vars rs .ret s:=by
 obtain⟨t,h1,h2⟩:=hk
 exact⟨t,(Head.close l0 i used hob hrw hwr hl0 ho).trans h1,h2⟩
attribute [go_sem] YR
end Go.Vm
namespace Go.Proofs.YtnoldekcdlaahaaGreat
open Go.Vm
def wdR (w:DWorld) (a b c d e f g h:Cl):List Cl:=[a,.v (.int .i64 w.c0.slots),.v (.int .i64 w.c0.bufs),.v (.int .i64 w.time),.v (.int .i64 w.t),.v (.int .i64 w.e),.v (.int .i64 w.d.ver),b,c,d,e,f,g,h]
@[go_sem] theorem AK8 (w:DWorld) (a b c d e f g h:Cl):wdR w a b c d e f g h = [a,.v (.int .i64 w.c0.slots),.v (.int .i64 w.c0.bufs),.v (.int .i64 w.time),.v (.int .i64 w.t),.v (.int .i64 w.e),.v (.int .i64 w.d.ver),b,c,d,e,f,g,h]:=rfl
theorem ng (w:DWorld) {st:List Ob} {l:Nat} {x1 x2 x3 x4 x5 x6 x7 x8:Cl} (h:st[l]?=some ⟨44,14,[wdR w x1 x2 x3 x4 x5 x6 x7 x8],true,true⟩):InlS prog 30 st [.lp l 0 0] (.c (.v (.bool (TV w)))) st:=by
 refine ACR (fn:=f30) call30 func30 rfl mixed ntmps30 results30 (by kernel_rfl) rfl fun m env=>?_
 have hob:DT st l=some ⟨44,14,[wdR w x1 x2 x3 x4 x5 x6 x7 x8],true,true⟩:=by simp[DT,h]
 simp only[go_sem] at hob
 rcases h1:decide (w.time<1000000) with _ | _<;>rcases h2:decide (w.t<1000000) with _ | _<;>rcases h3:decide (w.e<1000000) with _ | _ <;>
  simp only[go_sem,hob,h1,h2,h3,TV,aj,ai]
def opAt (w:DWorld) (k:Int):Int:=match w.tasks[k.toNat]? with
 | some t=>t.op
 | none=>1
theorem ZB {k a b:Int} (h:Aa k a b=true) (ha:0≤a):∃ n:Nat,k=n∧(n:Int)≤b:=by
 simp[Aa] at h
 exact⟨k.toNat,AOh,AOh⟩
theorem Hm {w:DWorld} (h:DY w=true):w.tasks.length=5∧w.p.length=5:=by
 unfold DY at h
 simp only[ay,ZE] at h
 omega
theorem Qv {α:Type} {f:α→Prop}:fitS f []:=⟨AOi,fun x hx=>by simp at hx⟩
theorem kF:A_ ⟨0,0,0,⟨0,0,ByteArray.empty⟩,[]⟩:=by rw[BP]; exact⟨by simp[Gh,DPred.v],Qv⟩
theorem nrZ {a1 a2 a3 a4 a5 a6 a7 a8 a9 b1 b2 b3 b4 b5 b6 b7 b8 b9:Int} {t1 t2:ByteArray} {c1:Bool} {n1 n2 n3 n4:Value}:DI [[Cl.v (.int .i64 a1),Cl.v (.int .i64 a2),.v n1,Cl.v (.int .i64 a3),Cl.v (.int .i64 a5),Cl.v (.int .i64 a6),Cl.v (.int .i64 a7),Cl.v (.int .i64 a8),Cl.v (.int .i64 a9),Cl.v (.int .i64 b1),Cl.v (.string t1),.v n2,Cl.v (.int .i64 b2),.v n3,.v n4,Cl.v (.int .i64 b3),Cl.v (.bool c1),Cl.v (.int .i64 b4),Cl.v (.int .i64 b5),Cl.v (.string t2),Cl.v (.int .i64 b6),Cl.v (.int .i64 b7),Cl.v (.int .i64 b8),Cl.v (.int .i64 b9),Cl.v (.int .i64 a4)]]=true:=rfl
def Oi {α:Type} (p:α→Bool) (l:List α):Int:=match l.findIdx? p with
 | some i=>(i:Int)
 | none=>-1
theorem NG {α:Type} {p:α→Bool} {l:List α} {k:Nat} (hk:k<l.length) (h:Ea l (fun x=>!p x) k) (hp:p l[k]=true):Oi p l=k:=by
 have:l.findIdx? p=some k:=List.findIdx?_eq_some_iff_getElem.2 ⟨hk,hp,fun j hj=>by simpa using h.2 j AOh hj⟩
 simp[Oi,this]
theorem NH {α:Type} {p:α→Bool} {l:List α} (h:Ea l (fun x=>!p x) l.length):Oi p l = -1:=by
 have:l.findIdx? p=none:=List.findIdx?_eq_none_iff.2 fun x hx=>by
  obtain⟨i,hi,rfl⟩:=aay hx
  simpa using h.2 i hi hi
 simp[Oi,this]
theorem Wv {α:Type} (p:α→Bool) (l:List α):Oi p l = -1∨∃ (k:Nat) (h:k<l.length),Oi p l=k∧p l[k]=true:=by
 unfold Oi
 split
 ·rename_i i hi
  obtain⟨h1,h2,_⟩:=List.findIdx?_eq_some_iff_getElem.1 hi
  exact .inr ⟨i,h1,rfl,h2⟩
 ·exact .inl rfl
def Ib (d:DDir) (id:Int):Int:=Oi (fun r=>Az r id) d.l
def X9 (id:Int) (d:DDeed):Bool:=(d.op==1)&&((d.id==id)&&decide (id≥0))
def OH (l:List DDeed) (id:Int):Int:=Oi (X9 id) l
def VB (id:Int) (t:DTask):Bool:=(t.op==2)&&((t.id==id)&&t.won)
def EU (w:DWorld) (id:Int):Int:=Oi (VB id) w.tasks
theorem t_ (d:DDir) (id:Int) (hl:d.l.length≤1048576):Ctr prog 205 [.agg d.c,.c (.v (.int .i64 (id)))] [.val (.c (.v (.int .i64 (Ib d id))))]:=by
 refine CM call205 func205 ntmps205 results205 fun hw=>?_
 unfold Ib
 simp only[go_sem]
 refine AB4 1 (A:=Nat) (fun x=>[(5,.c (.v (.int .i64 (x))))]) (fun _=>[⟨38,2,[d.c],true,true⟩]) (Ea d.l fun r=>!Az r id) (fun x=>d.l.length-x) 0 ⟨⟨rfl,rfl⟩,rfl,Ce⟩ ?_
 intro k hk
 refine AOb (fun h=>?_) fun h=>?_
 ·have hk':k<d.l.length:=by simpa using h
  have e0:Az d.l[k] id=(decide (d.l[k].first≥0)&&(decide (id≥d.l[k].first)&&decide (IntKind.i64.wrap (id-d.l[k].first)<d.l[k].many))):=rfl
  have hw1:IntKind.i64.wrap ((k:Int)+1)=(k:Int)+1:=wrap_i64 AOh AOh
  simp only[go_sem,AA _ hk',hk']
  try refine AAm ?_
  try simp only[go_sem,AA _ hk',hk']
  rcases q1:decide (d.l[k].first≥0) with _ | _
  ·exact ALA
  rcases q2:decide (id≥d.l[k].first) with _ | _
  ·exact AK7
  rcases q3:decide (IntKind.i64.wrap (id-d.l[k].first)<d.l[k].many) with _ | _
  ·exact AKd
  ·simp only[go_sem,AA _ hk',hk',q1,q2,q3,NG (p:=fun r:DRef=>Az r id) hk' hk (by rw[e0,q1,q2,q3]; rfl)]
 ·have hk':k=d.l.length:=by have:=hk.1; simp at h; omega
  exact AMw
theorem uA (d:DDir) (id:Int) (hl:d.l.length≤1048576):Ctr prog 120 [.agg d.c,.c (.v (.int .i64 (id)))] [.val (.c (.v (.int .i64 (Ib d id))))]:=by
 refine CM call120 func120 ntmps120 results120 fun hw=>?_
 unfold Ib
 simp only[go_sem]
 refine AB4 1 (A:=Nat) (fun x=>[(10,.c (.v (.int .i64 (x))))]) (fun _=>[⟨38,2,[d.c],true,true⟩]) (Ea d.l fun r=>!Az r id) (fun x=>d.l.length-x) 0 ⟨⟨rfl,rfl⟩,rfl,Ce⟩ ?_
 intro k hk
 refine AOb (fun h=>?_) fun h=>?_
 ·have hk':k<d.l.length:=by simpa using h
  have hw1:IntKind.i64.wrap ((k:Int)+1)=(k:Int)+1:=wrap_i64 AOh AOh
  simp only[go_sem,AA _ hk',hk']
  try refine AAm ?_
  try simp only[go_sem,AA _ hk',hk']
  first | refine CY (D7 d.l[k] id) ?_ | refine CW (D7 d.l[k] id) fun _=>?_
  rcases q1:Az d.l[k] id with _ | _
  ·simp only[go_sem,AA _ hk',hk',hw1,q1]
   exact⟨k+1,⟨rfl,rfl⟩,rfl,Ah hk' hk (by rw[q1]; rfl),AOh⟩
  ·simp only[go_sem,AA _ hk',hk',hw1,q1,NG (p:=fun r:DRef=>Az r id) hk' hk q1]
 ·have hk':k=d.l.length:=by have:=hk.1; simp at h; omega
  exact AMw
theorem Jc (l:List DDeed) (id:Int) (hl:l.length≤1048576):Ctr prog 208 [.c (.sl (l.map DDeed.c)),.c (.v (.int .i64 (id)))] [.val (.c (.v (.int .i64 (OH l id))))]:=by
 refine CM call208 func208 ntmps208 results208 fun hw=>?_
 unfold OH
 simp only[go_sem,ae]
 refine AB4 0 (A:=Nat) (fun x=>[(5,.c (.v (.int .i64 (x))))]) (fun _=>[]) (Ea l fun d=>!X9 id d) (fun x=>l.length-x) 0 ⟨⟨rfl,rfl⟩,rfl,Ce⟩ ?_
 intro k hk
 refine AOc (fun h=>?_) fun h=>?_
 ·have hk':k<l.length:=by simpa using h
  have hw1:IntKind.i64.wrap ((k:Int)+1)=(k:Int)+1:=wrap_i64 AOh AOh
  have e0:X9 id l[k]=((l[k].op==1)&&((l[k].id==id)&&decide (id≥0))):=rfl
  simp only[go_sem,AA _ hk',hk']
  try refine AAm ?_
  try simp only[go_sem,AA _ hk',hk']
  rcases q1:l[k].op==1 with _ | _
  ·exact ALA
  rcases q2:l[k].id==id with _ | _
  ·exact AK7
  rcases q3:decide (id≥0) with _ | _
  ·exact AKd
  ·exact ANt
 ·have hk':k=l.length:=by have:=hk.1; simp at h; omega
  exact AMw
theorem Jd (l:List DDeed) (id:Int) (hl:l.length≤1048576):Ctr prog 243 [.c (.sl (l.map DDeed.c)),.c (.v (.int .i64 (id)))] [.val (.c (.v (.int .i64 (OH l id))))]:=by
 refine CM call243 func243 ntmps243 results243 fun hw=>?_
 unfold OH
 simp only[go_sem,ae]
 refine AB4 0 (A:=Nat) (fun x=>[(9,.c (.v (.int .i64 (x))))]) (fun _=>[]) (Ea l fun d=>!X9 id d) (fun x=>l.length-x) 0 ⟨⟨rfl,rfl⟩,rfl,Ce⟩ ?_
 intro k hk
 refine AOc (fun h=>?_) fun h=>?_
 ·have hk':k<l.length:=by simpa using h
  have hw1:IntKind.i64.wrap ((k:Int)+1)=(k:Int)+1:=wrap_i64 AOh AOh
  have e0:X9 id l[k]=((l[k].op==1)&&((l[k].id==id)&&decide (id≥0))):=rfl
  simp only[go_sem,AA _ hk',hk']
  try refine AAm ?_
  try simp only[go_sem,AA _ hk',hk']
  rcases q3:decide (id≥0) with _ | _
  ·simp only[go_sem,AA _ hk',hk',hw1,q3]
   exact⟨k+1,⟨rfl,rfl⟩,rfl,Ah hk' hk (by rw[e0,q3,aH,aH]; rfl),AOh⟩
  rcases q1:l[k].op==1 with _ | _
  ·simp only[go_sem,AA _ hk',hk',hw1,q1,q3]
   exact⟨k+1,⟨rfl,rfl⟩,rfl,Ah hk' hk (by rw[e0,q1]; rfl),AOh⟩
  rcases q2:l[k].id==id with _ | _
  ·simp only[go_sem,AA _ hk',hk',hw1,q1,q2,q3]
   exact⟨k+1,⟨rfl,rfl⟩,rfl,Ah hk' hk (by rw[e0,q1,q2]; rfl),AOh⟩
  ·exact ANt
 ·have hk':k=l.length:=by have:=hk.1; simp at h; omega
  exact AMw
theorem MW (w:DWorld) (id:Int) (hl:w.tasks.length≤1048576):Ctr prog 210 [.agg w.c,.c (.v (.int .i64 (id)))] [.val (.c (.v (.int .i64 (EU w id))))]:=by
 refine CM call210 func210 ntmps210 results210 fun hw=>?_
 unfold EU
 simp only[go_sem,ae]
 refine AB4 1 (A:=Nat) (fun x=>[(5,.c (.v (.int .i64 (x))))]) (fun _=>[⟨44,14,[w.c],true,true⟩]) (Ea w.tasks fun d=>!VB id d) (fun x=>w.tasks.length-x) 0 ⟨⟨rfl,rfl⟩,rfl,Ce⟩ ?_
 exact AGl
theorem Iu (w:DWorld) (id:Int) (hl:w.tasks.length≤1048576):Ctr prog 246 [.agg w.c,.c (.v (.int .i64 (id)))] [.val (.c (.v (.int .i64 (EU w id))))]:=by
 refine CM call246 func246 ntmps246 results246 fun hw=>?_
 unfold EU
 simp only[go_sem,ae]
 refine AB4 1 (A:=Nat) (fun x=>[(10,.c (.v (.int .i64 (x))))]) (fun _=>[⟨44,14,[w.c],true,true⟩]) (Ea w.tasks fun d=>!VB id d) (fun x=>w.tasks.length-x) 0 ⟨⟨rfl,rfl⟩,rfl,Ce⟩ ?_
 exact AGl
def P5 (n s:Int):Int:=if(n == -1&&decide (s≥1))=true then s else n
def Jr (n s:Int):Bool:=n == -1&&decide (s≥1)
theorem Ic (n s:Int):Ctr prog 209 [.c (.v (.int .i64 (n))),.c (.v (.int .i64 (s)))] [.val (.c (.v (.int .i64 (P5 n s)))),.val (.c (.v (.bool (Jr n s))))]:=by
 refine CM call209 func209 ntmps209 results209 fun hw=>?_
 have e:decide (s<1) = !decide (s≥1):=by by_cases h:s<1<;>simp[h]<;>omega
 exact AMR
theorem GK (n s:Int):Ctr prog 245 [.c (.v (.int .i64 (n))),.c (.v (.int .i64 (s)))] [.val (.c (.v (.int .i64 (P5 n s)))),.val (.c (.v (.bool (Jr n s))))]:=by
 refine CM call245 func245 ntmps245 results245 fun hw=>?_
 have e:decide (s>0)=decide (s≥1):=by by_cases h:s>0<;>simp[h]<;>omega
 exact AMR
theorem X_ (n:Int):Ctr prog 93 [.c (.v (.int .i64 (n)))] [.val (.c (.v (.bool (n == -1))))]:=by
 refine CM call93 func93 ntmps93 results93 fun hw=>?_
 exact AIk
def UL (s:Int) (x:DSlot):DSlot:=⟨P5 x.ins s,x.l⟩
def I8 (c:DChunk) (i:Nat) (s:Int):DChunk:=⟨c.next,c.l.modify i (UL s)⟩
theorem Dp {α:Type} (f:α→α) {l:List α} {i:Nat} (h:i<l.length):l.modify i f=l.set i (f l[i]):=by
 apply abp
 intro j
 rw[List.getElem?_modify,yz]
 by_cases e:i=j
 ·subst e; simp[h]
 ·simp[e]
theorem L_ (c:DChunk) (i:Nat) (s:Int) (hc:F_ c) (hi:i<c.l.length):Ctr prog 207 [.agg c.c,.c (.v (.int .i64 ((i:Int)))),.c (.v (.int .i64 (s)))] [.agg (I8 c i s).o,.val (.c (.v (.bool (Jr c.l[i].ins s))))]:=by
 have hlen:=hc
 rw[EE] at hlen
 have hlen:=hlen.1
 refine CM call207 func207 ntmps207 results207 fun hw=>?_
 simp only[go_sem]
 refine CW (WV c hc) fun _=>?_
 simp only[go_sem,ae,wrap_i64 (n:=(c.l.length:Int)-1) AOh AOh]
 try refine AAm ?_
 try simp only[go_sem]
 first | refine AB5 _ (AP (i:Int) 0 ((c.l.length:Int)-1)) ?_ | refine AAT _ (AP (i:Int) 0 ((c.l.length:Int)-1)) fun _=>?_
 have h1:Aa (i:Int) 0 ((c.l.length:Int)-1)=true:=AQB
 simp only[go_sem,h1,AA _ hi,hi]
 refine AAT _ (Ic c.l[i].ins s) fun _=>?_
 exact ALr
theorem Fz (c:DChunk) (i:Nat) (s:Int) (hc:F_ c) (hi:i<c.l.length):Ctr prog 242 [.agg c.c,.c (.v (.int .i64 ((i:Int)))),.c (.v (.int .i64 (s)))] [.agg (I8 c i s).o,.val (.c (.v (.bool (Jr c.l[i].ins s))))]:=by
 refine CM call242 func242 ntmps242 results242 fun hw=>?_
 simp only[go_sem]
 refine CW (Qh c hc) fun _=>?_
 simp only[go_sem]
 refine CW (Gj c (i:Int)) fun _=>?_
 have h1:JM c (i:Int)=true:=by simp[JM]; omega
 simp only[go_sem,h1,AA _ hi,hi]
 refine AAT _ (GK c.l[i].ins s) fun _=>?_
 exact ALr
def YA (w:DWorld) (r:DRef) (id:Int):Int:=match Qd w r.buf with
 | some b=>((b.c0.l[(id-r.first).toNat]?).map DSlot.ins).getD 0
 | none=>0
noncomputable def insOf (w:DWorld) (r:DRef) (id:Int):Int:=
 if there w r=true then(if(r.kind==1)=true then YA w r id else if(r.kind==2&&(IR (C_ w r) id).isSome)=true then 1 else 0) else 0
end Go.Proofs.YtnoldekcdlaahaaGreat
