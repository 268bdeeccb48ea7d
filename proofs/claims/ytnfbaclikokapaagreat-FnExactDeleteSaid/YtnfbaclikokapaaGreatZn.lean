/- A part. -/
import Derived.Test.YtnfbaclikokapaaGreatZi
import Derived.Test.YtnfbaclikokapaaGreatZc
set_option linter.unusedSimpArgs false
set_option linter.unusedVariables false
set_option maxHeartbeats 8000000
set_option maxRecDepth 10000
open Go.Proofs.Tryz
namespace Go.Proofs.YtnfbaclikokapaaGreat
open Go.Vm
theorem kZ (b:DBuf) (hb:Io b):Ctr prog 152 [.agg b.c] [.agg b.o]:=by
 rw[Ht] at hb
 refine CM call152 func152 ntmps152 results152 fun hw=>?_
 have hl:b.g.length≤2147483648:=by have:=hb.2; omega
 simp only[go_sem]
 refine DrawK.split 6 7 [0,1,2,3,4,5,6,7,8,9,10,11,12] [0,1,2,3,4,5,7,6,8,9,10,11,12] rfl (by kernel_rfl) (by kernel_rfl) ?_ ?_
 all_goals
  refine DrawK.mkE ?_
  simp only[go_sem,Bg]
  refine CZ (kY b.c0 hb.1) ?_
  simp only[go_sem,Es,ae,hl,aJ,Bg,FY]
  try simp[AU,AO]
theorem qp (l:List DBuf) (hl:fitS Io l):Ctr prog 85 [.c (.sl (l.map DBuf.c))] [.own 160 5 (l.map DBuf.o) true]:=by
 refine CM call85 func85 ntmps85 results85 fun hw=>?_
 have hlen:=hl.1
 simp only[go_sem,ae]
 refine LoopH.mk [6] (A:=Nat×List DBuf) (fun x=>[(4,.c (.v (.int .i64 (x.1)))),(3,.c (.ref 0))]) (fun x=>[⟨160,5,x.2.map DBuf.o,true,true⟩]) (fun x=>x.1≤l.length∧x.2.length≤x.1∧x.2++l.drop x.1=l) (fun x=>l.length-x.1) (0,[]) (Head.sel [(0,false)] ⟨rfl,rfl,rfl,trivial⟩ rfl) ⟨ax _,aN _,rfl⟩ ?_
 rintro⟨k,out⟩ ⟨hk,hol,hb⟩
 dsimp only at hk hol hb
 simp only[go_sem,ae]
 refine cndC.mk (fun h=>?_) (fun h=>?_)
 ·have hk':k<l.length:=by simpa using h
  rw[aG hk'] at hb
  have hr:=hl.2 _ (aj hk')
  have hol2:out.length+1≤2147483648:=by omega
  have hnr:∀ (a b c:Int) (m n:Nat),Df [[Cl.v (.int .i64 a),Cl.v (.int .i64 b),Cl.v (.int .i64 c),.ref m,.ref n]]=false:=fun _ _ _ _ _=>rfl
  simp only[go_sem,ae,AA _ hk',hk',aJ]
  refine CW (kZ l[k] hr) fun _=>?_
  simp only[go_sem,bK,dm,AA _ hk',hk',hol2,hnr,MG,aC,aJ,wrap_i64 (n:=(k:Int)+1) (by omega) (by omega)]
  refine⟨(k+1,out ++ [l[k]]),Head.selAbs [(5,true),(1,true),(2,false)] 1 0 ⟨rfl,rfl,I7 DBuf.o_nr _ out rfl,Dq (FY _),AQ byteC.pure,trivial⟩ ⟨out.length,out.map DBuf.o ++ [DBuf.o l[k]],_,DBuf.o l[k],_,⟨W_ 0,rfl,I5 DBuf.o_nr _ out _ _,by simp,rfl⟩,
   ⟨rfl,rfl,rfl,rfl,rfl,rfl,rfl,rfl, ?xs,rfl, ?nr,by simp[D7],rfl,rfl,rfl,rfl,Bg _,by simp[D7],fun l hl=>by simp[D7] at hl; omega⟩,⟨rfl, ?tr⟩, ?eq⟩,⟨hk',by simp; omega,(bM _ _ _).trans hb⟩,by simp only; omega⟩
  case xs=>exact DF (FY _)
  case nr=>exact FY _
  case tr=>unfold A8; rw[BJ]; exact allA (AP (DY _))
  case eq=>unfold A8; rw[BJ,Vp]; rfl
 ·have hk':k=l.length:=by simp at h; omega
  subst hk'
  rw[aU] at hb
  have:out=l:=by simpa using hb
  subst this
  simp only[go_sem,DY]
  try simp
theorem VV (r:DResult) (hr:JM r):Ctr prog 196 [.agg r.c] [.agg r.o]:=by
 rw[KR] at hr
 refine CM call196 func196 ntmps196 results196 fun hw=>?_
 simp only[go_sem]
 refine DrawK.mkE ?_
 simp only[go_sem]
 refine CZ (QF r.rows hr.1) ?_
 simp only[go_sem,A7]
 try simp[AU,AO]
theorem ZO (r:DResult) (hr:JM r):Ctr prog 213 [.agg r.c] [.agg r.o]:=by
 rw[KR] at hr
 refine CM call213 func213 ntmps213 results213 fun hw=>?_
 simp only[go_sem]
 refine CW (Y_ r.rows hr.1) fun _=>?_
 simp only[go_sem,A7]
 try simp[AU,AO]
def uz:List Cl:=[.v (.int .i64 0),.v (.int .i64 0),.v (.int .i64 0),.v (.int .i64 0),.v (.int .i64 0),.v (.string ByteArray.empty),.v (.slice none 0 0)]
def u_ (p:DPred):List Cl:=[.v (.int .i64 p.kind),.v (.int .i64 p.col),.v (.int .i64 p.op),.v (.int .i64 p.v.ty),.v (.int .i64 p.v.n),.v (.string p.v.s),.v (.slice none 0 0)]
def vC (p:DPred) (l:Nat):List Cl:=[.v (.int .i64 p.kind),.v (.int .i64 p.col),.v (.int .i64 p.op),.v (.int .i64 p.v.ty),.v (.int .i64 p.v.n),.v (.string p.v.s),.ref l]
@[go_sem] theorem AFs:uz = [.v (.int .i64 0),.v (.int .i64 0),.v (.int .i64 0),.v (.int .i64 0),.v (.int .i64 0),.v (.string ByteArray.empty),.v (.slice none 0 0)]:=rfl
@[go_sem] theorem AFt (p:DPred):u_ p = [.v (.int .i64 p.kind),.v (.int .i64 p.col),.v (.int .i64 p.op),.v (.int .i64 p.v.ty),.v (.int .i64 p.v.n),.v (.string p.v.s),.v (.slice none 0 0)]:=rfl
@[go_sem] theorem AFu (p:DPred) (l:Nat):vC p l = [.v (.int .i64 p.kind),.v (.int .i64 p.col),.v (.int .i64 p.op),.v (.int .i64 p.v.ty),.v (.int .i64 p.v.n),.v (.string p.v.s),.ref l]:=rfl
theorem ku (p:DPred) (hp:Aq p) (hx:∀ x∈p.l,Ctr prog 207 [.agg x.c] [.agg x.o]):Ctr prog 207 [.agg p.c] [.agg p.o]:=by
 refine CM call207 func207 ntmps207 results207 fun hw=>?_
 have hpl:p.l.length≤1048576:=by rw[BP] at hp; exact hp.2.1
 simp only[go_sem]
 refine LoopH.mk [] (A:=Nat×List DPred) (fun x=>[(18,.c (.v (.int .i64 (x.1))))]) (fun x=>[⟨71,7,[Y8 p],true,true⟩,⟨71,7,[uz],true,true⟩,⟨71,7,[vC p 3],true,true⟩,⟨71,7,x.2.map DPred.o,true,true⟩]) (fun x=>x.1≤p.l.length∧x.2.length=x.1∧x.2++p.l.drop x.1=p.l) (fun x=>p.l.length-x.1) (0,[]) (Head.trans (Head.nilR 2 6 71 7 ⟨71,7,[u_ p],true,true⟩ (u_ p) rfl rfl rfl) (Head.sel [(0,false),(1,true),(2,true),(3,false)] ⟨rfl,rfl,rfl,rfl,rfl,rfl,trivial⟩ rfl)) ⟨ax _,rfl,rfl⟩ ?_
 rintro⟨k,out⟩ ⟨hk,hol,hb⟩
 dsimp only at hk hol hb
 simp only[go_sem]
 refine cndC.mk (fun h=>?_) (fun h=>?_)
 ·have hk':k<p.l.length:=by simpa using h
  rw[aG hk'] at hb
  have hol2:out.length+1≤2147483648:=by omega
  have hnr:∀ (a b c d e:Int) (t:ByteArray) (l:Nat),Df [[Cl.v (.int .i64 a),Cl.v (.int .i64 b),Cl.v (.int .i64 c),Cl.v (.int .i64 d),Cl.v (.int .i64 e),Cl.v (.string t),.ref l]]=false:=fun _ _ _ _ _ _ _=>rfl
  simp only[go_sem,AA _ hk',hk']
  refine DrawK.mkE ?_
  simp only[go_sem,AA _ hk',hk']
  refine CZ (hx p.l[k] (aj hk')) ?_
  simp only[go_sem,bK,dm,AA _ hk',hk',hol2,hnr,MG,aC,aJ,wrap_i64 (n:=(k:Int)+1) (by omega) (by omega)]
  refine⟨(k+1,out ++ [p.l[k]]),Head.selAbs [(0,false),(1,true),(2,true),(7,true),(5,true)] 4 3 ⟨rfl,rfl,rfl,rfl,rfl,I7 DPred.o_nr _ out rfl,Dq (BG _),trivial⟩ ⟨out.length,out.map DPred.o ++ [DPred.o p.l[k]],_,DPred.o p.l[k],_,⟨W_ 3,rfl,I5 DPred.o_nr _ out _ _,by simp,rfl⟩,
   (by rw[DPred.o_eq]; exact⟨rfl,rfl,rfl,rfl,rfl,rfl,rfl,rfl,rfl,rfl,rfl,rfl,rfl,rfl,DF (BG _),rfl,BG _,by simp[D7],fun l hl=>by simp[D7] at hl; omega⟩),⟨rfl, ?tr⟩, ?eq⟩,⟨hk',by simp; omega,(bM _ _ _).trans hb⟩,by simp only; omega⟩
  case tr=>unfold A8; rw[BJ]; exact ADP rfl rfl rfl (AP (BG _))
  case eq=>unfold A8; rw[BJ,Vp]; rfl
 ·have hk':k=p.l.length:=by simp at h; omega
  subst hk'
  rw[aU] at hb
  have:out=p.l:=by simpa using hb
  rw[← this]
  simp only[go_sem,BG]
  try simp[AU,AO]
theorem vF (p:DPred) (hp:Aq p) (hx:∀ x∈p.l,Ctr prog 211 [.agg x.c] [.agg x.o]):Ctr prog 211 [.agg p.c] [.agg p.o]:=by
 refine CM call211 func211 ntmps211 results211 fun hw=>?_
 have hpl:p.l.length≤1048576:=by rw[BP] at hp; exact hp.2.1
 simp only[go_sem]
 refine LoopH.mk [8,7] (A:=Nat×List DPred) (fun x=>[(4,.c (.v (.int .i64 (x.1))))]) (fun x=>[⟨71,7,[Y8 p],true,true⟩,⟨71,7,[uz],true,true⟩,⟨71,7,[vC p 3],true,true⟩,⟨71,7,x.2.map DPred.o,true,true⟩]) (fun x=>x.1≤p.l.length∧x.2.length=x.1∧x.2++p.l.drop x.1=p.l) (fun x=>p.l.length-x.1) (0,[]) (Head.sel [(0,false),(1,true),(2,true),(3,false)] ⟨rfl,rfl,rfl,rfl,rfl,rfl,trivial⟩ rfl) ⟨ax _,rfl,rfl⟩ ?_
 rintro⟨k,out⟩ ⟨hk,hol,hb⟩
 dsimp only at hk hol hb
 simp only[go_sem]
 refine cndC.mk (fun h=>?_) (fun h=>?_)
 ·have hk':k<p.l.length:=by simpa using h
  rw[aG hk'] at hb
  have hol2:out.length+1≤2147483648:=by omega
  have hnr:∀ (a b c d e:Int) (t:ByteArray) (l:Nat),Df [[Cl.v (.int .i64 a),Cl.v (.int .i64 b),Cl.v (.int .i64 c),Cl.v (.int .i64 d),Cl.v (.int .i64 e),Cl.v (.string t),.ref l]]=false:=fun _ _ _ _ _ _ _=>rfl
  simp only[go_sem,AA _ hk',hk']
  refine CW (hx p.l[k] (aj hk')) fun _=>?_
  simp only[go_sem,bK,dm,AA _ hk',hk',hol2,hnr,MG,aC,aJ,wrap_i64 (n:=(k:Int)+1) (by omega) (by omega)]
  refine⟨(k+1,out ++ [p.l[k]]),Head.selAbs [(0,false),(1,true),(2,true),(7,true),(4,true)] 4 3 ⟨rfl,rfl,rfl,rfl,rfl,I7 DPred.o_nr _ out rfl,Dq (BG _),trivial⟩ ⟨out.length,out.map DPred.o ++ [DPred.o p.l[k]],_,DPred.o p.l[k],_,⟨W_ 3,rfl,I5 DPred.o_nr _ out _ _,by simp,rfl⟩,
   (by rw[DPred.o_eq]; exact⟨rfl,rfl,rfl,rfl,rfl,rfl,rfl,rfl,rfl,rfl,rfl,rfl,rfl,rfl,DF (BG _),rfl,BG _,by simp[D7],fun l hl=>by simp[D7] at hl; omega⟩),⟨rfl, ?tr⟩, ?eq⟩,⟨hk',by simp; omega,(bM _ _ _).trans hb⟩,by simp only; omega⟩
  case tr=>unfold A8; rw[BJ]; exact ADP rfl rfl rfl (AP (BG _))
  case eq=>unfold A8; rw[BJ,Vp]; rfl
 ·have hk':k=p.l.length:=by simp at h; omega
  subst hk'
  rw[aU] at hb
  have:out=p.l:=by simpa using hb
  rw[← this]
  simp only[go_sem,BG]
  try simp[AU,AO]
theorem fQ {C:DPred→Prop} (h:∀ p,Aq p→(∀ x∈p.l,C x)→C p):∀ (n:Nat) (p:DPred),SizeOf.sizeOf p≤n→Aq p→C p:=by
 intro n
 induction n with
 | zero=>intro p h; cases p; simp at h
 | succ n ih =>
  intro p hs hp
  refine h p hp fun x hx=>ih x ?_ ?_
  ·have h1:SizeOf.sizeOf x<SizeOf.sizeOf p.l:=v_ hx
   have h2:SizeOf.sizeOf p.l<SizeOf.sizeOf p:=by cases p; simp[DPred.l]; omega
   omega
  ·rw[BP] at hp; exact hp.2.2 x hx
theorem ZP (p:DPred) (hp:Aq p):Ctr prog 207 [.agg p.c] [.agg p.o]:=fQ ku _ p (aN _) hp
theorem kw (p:DPred) (hp:Aq p):Ctr prog 211 [.agg p.c] [.agg p.o]:=fQ vF _ p (aN _) hp
theorem Qx (l:List Int):Jj 1 (l.map intC)=true:=MH (fun _=>rfl) l
theorem JH (l:List Int) (h:l.length≤1048576):Ctr prog 116 [.c (.sl (l.map intC))] [.own 3 1 (l.map intC) true]:=by
 refine CM call116 func116 ntmps116 results116 fun hw=>?_
 have hl:l.length≤2147483648:=by omega
 simp only[go_sem,Qx,ae,hl,aJ,Am]
 try simp
theorem O4 (q:DQuery) (hq:Dv q):Ctr prog 146 [.agg q.c] [.agg q.o]:=by
 rw[Ey] at hq
 refine CM call146 func146 ntmps146 results146 fun hw=>?_
 simp only[go_sem]
 refine DrawK.mkE ?_
 simp only[go_sem]
 refine CZ (ZP q.p hq.1) ?_
 simp only[go_sem]
 refine CallE.mk _ (JH q.out hq.2) ?_
 simp only[go_sem,Am,BG]
 try simp[AU,AO]
theorem Uf (q:DQuery) (hq:Dv q):Ctr prog 153 [.agg q.c] [.agg q.o]:=by
 rw[Ey] at hq
 refine CM call153 func153 ntmps153 results153 fun hw=>?_
 have hl:q.out.length≤2147483648:=by have:=hq.2; omega
 simp only[go_sem]
 refine CW (kw q.p hq.1) fun _=>?_
 simp only[go_sem,Qx,ae,hl,aJ,Am,BG]
 try simp[AU,AO]
theorem ZQ (t:DTask) (ht:Ef t):Ctr prog 119 [.agg t.c] [.agg t.o]:=by
 rw[Di] at ht
 refine CM call119 func119 ntmps119 results119 fun hw=>?_
 simp only[go_sem]
 refine DrawK.mkE ?_
 simp only[go_sem]
 refine CallE.mk _ (Fh t.r ht.1.1) ?_
 simp only[go_sem]
 refine CZ (O4 t.q ht.2.1) ?_
 simp only[go_sem]
 refine CallE.mk _ (QK t.l ht.2.2.1) ?_
 simp only[go_sem]
 refine CZ (QF t.got ht.2.2.2) ?_
 simp only[go_sem,Am,BG,CV,ER,A7]
 try simp[AU,AO]
theorem Ov (t:DTask) (ht:Ef t):Ctr prog 86 [.agg t.c] [.agg t.o]:=by
 rw[Di] at ht
 refine CM call86 func86 ntmps86 results86 fun hw=>?_
 have h1:t.r.length≤2147483648:=by have:=ht.1.1; omega
 have h2:t.l.length≤2147483648:=by have:=ht.2.2.1; omega
 simp only[go_sem,G7,ae,h1,aJ]
 refine CW (Uf t.q ht.2.1) fun _=>?_
 simp only[go_sem,ZM,ae,h2,aJ]
 refine CW (Y_ t.got ht.2.2.2) fun _=>?_
 simp only[go_sem,Am,BG,CV,ER,A7]
 try simp[AU,AO]
theorem ZR (d:DDeed) (hd:ED d):Ctr prog 120 [.agg d.c] [.agg d.o]:=by
 rw[FP] at hd
 refine CM call120 func120 ntmps120 results120 fun hw=>?_
 simp only[go_sem]
 refine DrawK.mkE ?_
 simp only[go_sem]
 refine CallE.mk _ (Fh d.r hd.1.1) ?_
 simp only[go_sem]
 refine CZ (O4 d.q hd.2.1) ?_
 simp only[go_sem]
 refine CZ (VV d.res hd.2.2) ?_
 simp only[go_sem,Am,BG,CV,ER,A7]
 try simp[AU,AO]
theorem Ox (d:DDeed) (hd:ED d):Ctr prog 155 [.agg d.c] [.agg d.o]:=by
 rw[FP] at hd
 refine CM call155 func155 ntmps155 results155 fun hw=>?_
 have h1:d.r.length≤2147483648:=by have:=hd.1.1; omega
 simp only[go_sem,G7,ae,h1,aJ]
 refine CW (Uf d.q hd.2.1) fun _=>?_
 simp only[go_sem,ae,aJ]
 refine CW (ZO d.res hd.2.2) fun _=>?_
 simp only[go_sem,Am,BG,CV,ER,A7]
 try simp[AU,AO]
theorem nrT {a1 a2 a3 a4 a5 a6 a7 a8 a9 b1 b2 b3 b4 b5 b6 b7 b8 b9:Int} {t1:ByteArray} {c1:Bool} {n1 n2 n3 n4 n5:Nat}:Df [[Cl.v (.int .i64 a1),Cl.v (.int .i64 a2),Cl.v (.int .i64 a3),.ref n1,Cl.v (.int .i64 a4),Cl.v (.int .i64 a5),Cl.v (.int .i64 a6),Cl.v (.int .i64 a7),Cl.v (.int .i64 a8),Cl.v (.int .i64 a9),Cl.v (.int .i64 b1),Cl.v (.string t1),.ref n2,Cl.v (.int .i64 b2),.ref n3,Cl.v (.int .i64 b3),Cl.v (.int .i64 b4),.ref n4,Cl.v (.int .i64 b5),Cl.v (.int .i64 b6),Cl.v (.int .i64 b7),Cl.v (.int .i64 b8),Cl.v (.int .i64 b9),Cl.v (.bool c1),.ref n5]]=false:=rfl
theorem nrD {a1 a2 a3 a4 a5 a6 a7 a8 a9 b1 b2 b3 b4 b5 b6 b7 b8 b9:Int} {t1 t2:ByteArray} {c1:Bool} {n1 n2 n3 n4:Nat}:Df [[Cl.v (.int .i64 a1),Cl.v (.int .i64 a2),.ref n1,Cl.v (.int .i64 a3),Cl.v (.int .i64 a5),Cl.v (.int .i64 a6),Cl.v (.int .i64 a7),Cl.v (.int .i64 a8),Cl.v (.int .i64 a9),Cl.v (.int .i64 b1),Cl.v (.string t1),.ref n2,Cl.v (.int .i64 b2),.ref n3,.ref n4,Cl.v (.int .i64 b3),Cl.v (.bool c1),Cl.v (.int .i64 b4),Cl.v (.int .i64 b5),Cl.v (.string t2),Cl.v (.int .i64 b6),Cl.v (.int .i64 b7),Cl.v (.int .i64 b8),Cl.v (.int .i64 b9),Cl.v (.int .i64 a4)]]=false:=rfl
theorem qw (l:List DDeed) (hl:fitS ED l):Ctr prog 87 [.c (.sl (l.map DDeed.c))] [.own 153 25 (l.map DDeed.o) true]:=by
 refine CM call87 func87 ntmps87 results87 fun hw=>?_
 have hlen:=hl.1
 simp only[go_sem,ae]
 refine LoopH.mk [6] (A:=Nat×List DDeed) (fun x=>[(4,.c (.v (.int .i64 (x.1)))),(3,.c (.ref 0))]) (fun x=>[⟨153,25,x.2.map DDeed.o,true,true⟩]) (fun x=>x.1≤l.length∧x.2.length≤x.1∧x.2++l.drop x.1=l) (fun x=>l.length-x.1) (0,[]) (Head.sel [(0,false)] ⟨rfl,rfl,rfl,trivial⟩ rfl) ⟨ax _,aN _,rfl⟩ ?_
 rintro⟨k,out⟩ ⟨hk,hol,hb⟩
 dsimp only at hk hol hb
 simp only[go_sem,ae]
 refine cndC.mk (fun h=>?_) (fun h=>?_)
 ·have hk':k<l.length:=by simpa using h
  rw[aG hk'] at hb
  have hr:=hl.2 _ (aj hk')
  have hol2:out.length+1≤2147483648:=by omega
  simp only[go_sem,ae,AA _ hk',hk',aJ]
  refine CW (Ox l[k] hr) fun _=>?_
  simp only[go_sem,bK,dm,AA _ hk',hk',hol2,nrD,aC,aJ,wrap_i64 (n:=(k:Int)+1) (by omega) (by omega)]
  refine⟨(k+1,out ++ [l[k]]),Head.selAbs [(7,true),(1,false),(2,true),(3,false),(4,true)] 1 0 ⟨rfl,rfl,I7 DDeed.o_nr _ out rfl,AQ DVal.pure,Dq (BG _),Be _,Dq (A7 _),trivial⟩ ⟨out.length,out.map DDeed.o ++ [DDeed.o l[k]],_,DDeed.o l[k],_,⟨W_ 0,rfl,I5 DDeed.o_nr _ out _ _,by simp,rfl⟩,
   (by rw[DDeed.o_eq,DQuery.o_eq,DResult.o_eq,DPred.o_eq]; exact⟨rfl,rfl,rfl,rfl,rfl,rfl,rfl,rfl,CV _,by simp[D7],rfl,rfl,rfl,rfl,rfl,rfl,rfl,rfl,rfl,rfl,rfl,rfl,rfl,rfl,rfl,rfl,rfl,rfl,DF (BG _),rfl,BG _,by simp[D7],rfl,rfl,rfl,rfl,rfl,rfl,Am _,by simp[D7],rfl,rfl,DF (A7 _),rfl,A7 _,by simp[D7],rfl,rfl,rfl,rfl,rfl,rfl,rfl,rfl,rfl,rfl,rfl,rfl,rfl,rfl,rfl,rfl,rfl,rfl,rfl,rfl,fun l hl=>by simp[D7] at hl; omega⟩),⟨rfl, ?tr⟩, ?eq⟩,⟨hk',by simp; omega,(bM _ _ _).trans hb⟩,by simp only; omega⟩
  case tr=>unfold A8; rw[BJ]; exact allA (AP (Iy _))
  case eq=>unfold A8; rw[BJ,Vp]; rfl
 ·have hk':k=l.length:=by simp at h; omega
  subst hk'
  rw[aU] at hb
  have:out=l:=by simpa using hb
  subst this
  simp only[go_sem,Iy]
  try simp
def wRow (w:DWorld) (tc dc:Cl):List Cl:=[.ref 3,.v (.int .i64 w.c0.slots),.v (.int .i64 w.c0.bufs),.v (.int .i64 w.time),.v (.int .i64 w.t),.v (.int .i64 w.e),.v (.int .i64 w.d.ver),.ref 4,.ref 5,.ref 6,.ref 7,.ref 8,tc,dc]
def xZ:List Cl:=[.v (.slice none 0 0),.v (.int .i64 0),.v (.int .i64 0),.v (.int .i64 0),.v (.int .i64 0),.v (.int .i64 0),.v (.int .i64 0),.v (.slice none 0 0),.v (.slice none 0 0),.v (.slice none 0 0),.v (.slice none 0 0),.v (.slice none 0 0),.v (.slice none 0 0),.v (.slice none 0 0)]
@[go_sem] theorem AHq (w:DWorld) (tc dc:Cl):wRow w tc dc = [.ref 3,.v (.int .i64 w.c0.slots),.v (.int .i64 w.c0.bufs),.v (.int .i64 w.time),.v (.int .i64 w.t),.v (.int .i64 w.e),.v (.int .i64 w.d.ver),.ref 4,.ref 5,.ref 6,.ref 7,.ref 8,tc,dc]:=rfl
@[go_sem] theorem AG7:xZ = [.v (.slice none 0 0),.v (.int .i64 0),.v (.int .i64 0),.v (.int .i64 0),.v (.int .i64 0),.v (.int .i64 0),.v (.int .i64 0),.v (.slice none 0 0),.v (.slice none 0 0),.v (.slice none 0 0),.v (.slice none 0 0),.v (.slice none 0 0),.v (.slice none 0 0),.v (.slice none 0 0)]:=rfl
theorem ABx {N:Nat} {a b c d e f g h i j:Ob} (ha:Az N a=true) (hb:Az N b=true) (hc:Az N c=true) (hd:Az N d=true) (he:Az N e=true) (hf:Az N f=true) (hg:Az N g=true) (hh:Az N h=true) (hi:Az N i=true) (hj:Az N j=true) : [a,b,c,d,e,f,g,h,i,j].all (Az N)=true:=by simp[ha,hb,hc,hd,he,hf,hg,hh,hi,hj]
theorem kz (w:DWorld) (hf:Aa w):Ctr prog 32 [.agg w.c] [.agg w.o]:=by
 rw[BI,JO,K_] at hf
 obtain⟨f1,f2,f3,f4,f5,f6,f7,f8⟩:=hf
 refine CM call32 func32 ntmps32 results32 fun hw=>?_
 have hlen:=f7.1
 have f1':w.c0.cols.length≤2147483648:=by omega
 have f4':w.m.length≤2147483648:=by omega
 have f5':w.x.length≤2147483648:=by omega
 have f6':w.p.length≤2147483648:=by omega
 simp only[go_sem,Qx,ae,f1',aJ]
 refine CW (kX w.d f2) fun _=>?_
 simp only[go_sem]
 refine CallK.mk _ (qp w.b f3) fun _=>?_
 simp only[go_sem,Qx,fP,ae,f4',f5',f6',aJ]
 refine LoopH.mk [4,6,7,8,9,10,11,12,13,14,15,16,17,18,19,20,21,22,23,24,25,26,27,28,29,30,31,32,33,34,35,36,37,38,39,40] (A:=Nat×List DTask) (fun x=>[(5,.c (.v (.int .i64 (x.1))))]) (fun x=>[⟨44,14,[w.c],true,true⟩,⟨44,14,[xZ],true,true⟩,⟨44,14,[wRow w (.ref 9) (.sl (w.deeds.map DDeed.c))],true,true⟩,⟨3,1,w.c0.cols.map intC,true,true⟩,⟨196,5,w.d.l.map DRef.c,true,true⟩,⟨160,5,w.b.map DBuf.o,true,true⟩,⟨3,1,w.m.map intC,true,true⟩,⟨163,3,w.x.map DDead.c,true,true⟩,⟨3,1,w.p.map intC,true,true⟩,⟨142,25,x.2.map DTask.o,true,true⟩]) (fun x=>x.1≤w.tasks.length∧x.2.length≤x.1∧x.2++w.tasks.drop x.1=w.tasks) (fun x=>w.tasks.length-x.1) (0,[]) (Head.sel [(0,false),(1,true),(2,true),(4,false),(5,false),(7,true),(9,false),(11,false),(13,false),(14,false)] ⟨rfl,rfl,rfl,rfl,rfl,Be _,AQ DRef.pure,Dq (DY _),Be _,AQ DDead.pure,Be _,rfl,trivial⟩ (by show (⟨65,_,[_,_,_,_,_,⟨160,5,(w.b.map DBuf.o).map (fun x=>x.map (Qy [(0,false),(1,true),(2,true),(4,false),(5,false),(7,true),(9,false),(11,false),(13,false),(14,false)])),true,true⟩,_,_,_,_]⟩:MS)=_; rw[DF (DY w.b)]; rfl)) ⟨ax _,aN _,rfl⟩ ?_
 rintro⟨k,out⟩ ⟨hk,hol,hb⟩
 dsimp only at hk hol hb
 simp only[go_sem,ae]
 refine cndC.mk (fun h=>?_) (fun h=>?_)
 ·have hk':k<w.tasks.length:=by simpa using h
  rw[aG hk'] at hb
  have hr:=f7.2 _ (aj hk')
  have hol2:out.length+1≤2147483648:=by omega
  simp only[go_sem,ae,AA _ hk',hk',aJ]
  refine CW (Ov w.tasks[k] hr) fun _=>?_
  simp only[go_sem,bK,dm,AA _ hk',hk',hol2,nrT,aC,aJ,wrap_i64 (n:=(k:Int)+1) (by omega) (by omega)]
  refine⟨(k+1,out ++ [w.tasks[k]]),Head.selAbs [(0,false),(1,true),(2,true),(3,false),(4,false),(5,true),(6,false),(7,false),(8,false),(17,true),(10,false),(11,true),(12,false),(13,false),(14,true)] 10 9 ⟨rfl,rfl,rfl,rfl,rfl,Be _,AQ DRef.pure,Dq (DY _),Be _,AQ DDead.pure,Be _,I7 DTask.o_nr _ out rfl,AQ DVal.pure,Dq (BG _),Be _,AQ DRef.pure,Dq (A7 _),trivial⟩ ⟨out.length,out.map DTask.o ++ [DTask.o w.tasks[k]],_,DTask.o w.tasks[k],_,⟨W_ 9,rfl,I5 DTask.o_nr _ out _ _,by simp,rfl⟩,
   (by rw[DTask.o_eq,DQuery.o_eq,DPred.o_eq]; exact⟨rfl,rfl,rfl,rfl,rfl,rfl,rfl,rfl,rfl,rfl,CV _,by simp[D7],rfl,rfl,rfl,rfl,rfl,rfl,rfl,rfl,rfl,rfl,rfl,rfl,rfl,rfl,rfl,rfl,rfl,rfl,DF (BG _),rfl,BG _,by simp[D7],rfl,rfl,rfl,rfl,rfl,rfl,Am _,by simp[D7],rfl,rfl,rfl,rfl,rfl,rfl,rfl,rfl,ER _,by simp[D7],rfl,rfl,rfl,rfl,rfl,rfl,rfl,rfl,rfl,rfl,rfl,rfl,rfl,rfl,DF (A7 _),rfl,A7 _,by simp[D7],fun l hl=>by simp[D7] at hl; omega⟩),⟨rfl, ?tr⟩, ?eq⟩,⟨hk',by simp; omega,(bM _ _ _).trans hb⟩,by simp only; omega⟩
  case tr =>
   unfold A8
   rw[BJ]
   show ([_,_,_,_,_,⟨160,5,(w.b.map DBuf.o).map (fun x=>x.map (Qy [(0,false),(1,true),(2,true),(3,false),(4,false),(5,true),(6,false),(7,false),(8,false),(17,true),(10,false),(11,true),(12,false),(13,false),(14,true)])),true,true⟩,_,_,_,_]:List Ob).all (Az 10)=true
   rw[DF (DY w.b)]
   exact ABx rfl rfl rfl (AP (Am _)) (AP (ER _)) (AP (DY _)) (AP (Am _)) (AP (Jh _)) (AP (Am _)) (AP (FZ _))
  case eq =>
   unfold A8
   rw[BJ,Vp]
   show (⟨65,_,[_,_,_,_,_,⟨160,5,(w.b.map DBuf.o).map (fun x=>x.map (Qy [(0,false),(1,true),(2,true),(3,false),(4,false),(5,true),(6,false),(7,false),(8,false),(17,true),(10,false),(11,true),(12,false),(13,false),(14,true)])),true,true⟩,_,_,_,_]⟩:MS)=_; rw[DF (DY w.b)]; rfl
 ·have hk':k=w.tasks.length:=by simp at h; omega
  subst hk'
  rw[aU] at hb
  have:out=w.tasks:=by simpa using hb
  rw[← this]
  simp only[go_sem]
  refine CallK.mk _ (qw w.deeds f8) fun _=>?_
  simp only[go_sem,Iy,FZ,DY,Am,ER,Jh]
  try simp[AU,AO]
@[go_sem] theorem AFC (k:Nat):Region.binds Region.Mode.any { on:=k,ground:=Ground.textOnly Departure.lateStores }=false:=rfl
@[go_sem] theorem ADQ (k:Nat):Region.binds Region.Mode.any { on:=k,ground:=Ground.textOnly Departure.lateStoresUnsure }=false:=rfl
def AD9 (w:DWorld):List Cl:=[.ref 2,.v (.int .i64 w.c0.slots),.v (.int .i64 w.c0.bufs),.v (.int .i64 w.time),.v (.int .i64 w.t),.v (.int .i64 w.e),.v (.int .i64 w.d.ver),.ref 4,.ref 5,.ref 6,.ref 8,.ref 9,.v (.slice none 0 0),.v (.slice none 0 0)]
theorem AG8 {N:Nat} {a b c d e f g h i j k:Ob} (h1 : [a,b,c,d,e,f,g,h,i,j].all (Az N)=true) (h2:Az N k=true) : [a,b,c,d,e,f,g,h,i,j,k].all (Az N)=true:=by simp only[bK,dm,aS,ak] at h1 ⊢; simp[h1,h2]
theorem IQ (w:DWorld) (hf:Aa w):Ctr prog 45 [.agg w.c] [.agg w.o]:=by
 rw[BI,JO,K_] at hf
 obtain⟨f1,f2,f3,f4,f5,f6,f7,f8⟩:=hf
 refine CM call45 func45 ntmps45 results45 fun hw=>?_
 have hlen:=f7.1
 have hlen2:=f8.1
 have f5':w.x.length≤2147483648:=by omega
 simp only[go_sem]
 refine DrawK.mkA 18 3 (by kernel_rfl) ?_
 simp only[go_sem]
 refine CallE.mk _ (JH w.c0.cols f1) ?_
 simp only[go_sem]
 refine DrawK.mkE ?_
 simp only[go_sem]
 refine CZ (a_ w.d f2) ?_
 simp only[go_sem]
 refine CallE.mk _ (ZN w.b f3) ?_
 simp only[go_sem]
 refine CallE.mk _ (JH w.m f4) ?_
 simp only[go_sem]
 refine DrawK.mkE ?_
 simp only[go_sem,fP,ae,f5',aJ]
 refine CallE.mk _ (JH w.p f6) ?_
 simp only[go_sem]
 refine LoopH.mk [8,9,10,11,12,13,14,15,16,17,18,19,20,21,22,23,24,25,26,27,28,29,30,31,32,33,34,35,36,37,38,39,40,41,42,43,44,45,46,47] (A:=Nat×List DTask) (fun x=>[(50,.c (.v (.int .i64 (x.1)))),(3,.lp 2 0 0)]) (fun x=>[⟨44,14,[w.c],true,true⟩,⟨44,14,[xZ],true,true⟩,⟨44,14,[wRow w (.ref 9) (.v (.slice none 0 0))],true,true⟩,⟨3,1,w.c0.cols.map intC,true,true⟩,⟨196,5,w.d.l.map DRef.c,true,true⟩,⟨160,5,w.b.map DBuf.o,true,true⟩,⟨3,1,w.m.map intC,true,true⟩,⟨163,3,w.x.map DDead.c,true,true⟩,⟨3,1,w.p.map intC,true,true⟩,⟨142,25,x.2.map DTask.o,true,true⟩]) (fun x=>x.1≤w.tasks.length∧x.2.length≤x.1∧x.2++w.tasks.drop x.1=w.tasks) (fun x=>w.tasks.length-x.1) (0,[]) (Head.trans (Head.nilR 3 12 142 25 ⟨44,14,[AD9 w],true,true⟩ (AD9 w) rfl rfl rfl) (Head.sel [(0,false),(1,true),(3,true),(2,false),(4,false),(5,true),(6,false),(8,false),(9,false),(10,false)] ⟨rfl,rfl,rfl,rfl,rfl,Be _,AQ DRef.pure,Dq (DY _),Be _,AQ DDead.pure,Be _,rfl,trivial⟩ (by show (⟨78,_,[_,_,_,_,_,⟨160,5,(w.b.map DBuf.o).map (fun x=>x.map (Qy [(0,false),(1,true),(3,true),(2,false),(4,false),(5,true),(6,false),(8,false),(9,false),(10,false)])),true,true⟩,_,_,_,_]⟩:MS)=_; rw[DF (DY w.b)]; rfl))) ⟨ax _,aN _,rfl⟩ ?_
 ·rintro⟨k,out⟩ ⟨hk,hol,hb⟩
  dsimp only at hk hol hb
  simp only[go_sem,ae]
  refine cndC.mk (fun h=>?_) (fun h=>?_)
  ·have hk':k<w.tasks.length:=by simpa using h
   rw[aG hk'] at hb
   have hr:=f7.2 _ (aj hk')
   have hol2:out.length+1≤2147483648:=by omega
   simp only[go_sem,ae,AA _ hk',hk',aJ]
   refine DrawK.mkE ?_
   simp only[go_sem,AA _ hk',hk']
   refine CZ (ZQ w.tasks[k] hr) ?_
   simp only[go_sem,bK,dm,AA _ hk',hk',hol2,nrT,aC,aJ,wrap_i64 (n:=(k:Int)+1) (by omega) (by omega)]
   refine⟨(k+1,out ++ [w.tasks[k]]),Head.selAbs [(0,false),(1,true),(2,true),(3,false),(4,false),(5,true),(6,false),(7,false),(8,false),(17,true),(11,false),(12,true),(13,false),(14,false),(15,true)] 10 9 ⟨rfl,rfl,rfl,rfl,rfl,Be _,AQ DRef.pure,Dq (DY _),Be _,AQ DDead.pure,Be _,I7 DTask.o_nr _ out rfl,AQ DVal.pure,Dq (BG _),Be _,AQ DRef.pure,Dq (A7 _),trivial⟩ ⟨out.length,out.map DTask.o ++ [DTask.o w.tasks[k]],_,DTask.o w.tasks[k],_,⟨W_ 9,rfl,I5 DTask.o_nr _ out _ _,by simp,rfl⟩,
    (by rw[DTask.o_eq,DQuery.o_eq,DPred.o_eq]; exact⟨rfl,rfl,rfl,rfl,rfl,rfl,rfl,rfl,rfl,rfl,CV _,by simp[D7],rfl,rfl,rfl,rfl,rfl,rfl,rfl,rfl,rfl,rfl,rfl,rfl,rfl,rfl,rfl,rfl,rfl,rfl,DF (BG _),rfl,BG _,by simp[D7],rfl,rfl,rfl,rfl,rfl,rfl,Am _,by simp[D7],rfl,rfl,rfl,rfl,rfl,rfl,rfl,rfl,ER _,by simp[D7],rfl,rfl,rfl,rfl,rfl,rfl,rfl,rfl,rfl,rfl,rfl,rfl,rfl,rfl,DF (A7 _),rfl,A7 _,by simp[D7],fun l hl=>by simp[D7] at hl; omega⟩),⟨rfl, ?tr⟩, ?eq⟩,⟨hk',by simp; omega,(bM _ _ _).trans hb⟩,by simp only; omega⟩
   case tr =>
    unfold A8
    rw[BJ]
    show ([_,_,_,_,_,⟨160,5,(w.b.map DBuf.o).map (fun x=>x.map (Qy [(0,false),(1,true),(2,true),(3,false),(4,false),(5,true),(6,false),(7,false),(8,false),(17,true),(11,false),(12,true),(13,false),(14,false),(15,true)])),true,true⟩,_,_,_,_]:List Ob).all (Az 10)=true
    rw[DF (DY w.b)]
    exact ABx rfl rfl rfl (AP (Am _)) (AP (ER _)) (AP (DY _)) (AP (Am _)) (AP (Jh _)) (AP (Am _)) (AP (FZ _))
   case eq =>
    unfold A8
    rw[BJ,Vp]
    show (⟨78,_,[_,_,_,_,_,⟨160,5,(w.b.map DBuf.o).map (fun x=>x.map (Qy [(0,false),(1,true),(2,true),(3,false),(4,false),(5,true),(6,false),(7,false),(8,false),(17,true),(11,false),(12,true),(13,false),(14,false),(15,true)])),true,true⟩,_,_,_,_]⟩:MS)=_; rw[DF (DY w.b)]; rfl
  ·have hk':k=w.tasks.length:=by simp at h; omega
   subst hk'
   rw[aU] at hb
   have:out=w.tasks:=by simpa using hb
   rw[this]
   simp only[go_sem]
   refine LoopH.mk [] (A:=Nat×List DDeed) (fun x=>[(65,.c (.v (.int .i64 (x.1))))]) (fun x=>[⟨44,14,[w.c],true,true⟩,⟨44,14,[xZ],true,true⟩,⟨44,14,[wRow w (.ref 9) (.ref 10)],true,true⟩,⟨3,1,w.c0.cols.map intC,true,true⟩,⟨196,5,w.d.l.map DRef.c,true,true⟩,⟨160,5,w.b.map DBuf.o,true,true⟩,⟨3,1,w.m.map intC,true,true⟩,⟨163,3,w.x.map DDead.c,true,true⟩,⟨3,1,w.p.map intC,true,true⟩,⟨142,25,w.tasks.map DTask.o,true,true⟩,⟨153,25,x.2.map DDeed.o,true,true⟩]) (fun x=>x.1≤w.deeds.length∧x.2.length≤x.1∧x.2++w.deeds.drop x.1=w.deeds) (fun x=>w.deeds.length-x.1) (0,[]) (Head.trans (Head.nilR 2 13 153 25 ⟨44,14,[wRow w (.ref 9) (.v (.slice none 0 0))],true,true⟩ (wRow w (.ref 9) (.v (.slice none 0 0))) rfl rfl rfl) (Head.sel [(0,false),(1,true),(2,true),(3,false),(4,false),(5,true),(6,false),(7,false),(8,false),(9,true),(10,false)] ⟨rfl,rfl,rfl,rfl,rfl,Be _,AQ DRef.pure,Dq (DY _),Be _,AQ DDead.pure,Be _,Dq (FZ _),rfl,trivial⟩ (by show (⟨78,_,[_,_,_,_,_,⟨160,5,(w.b.map DBuf.o).map (fun x=>x.map (Qy [(0,false),(1,true),(2,true),(3,false),(4,false),(5,true),(6,false),(7,false),(8,false),(9,true),(10,false)])),true,true⟩,_,_,_,⟨142,25,(w.tasks.map DTask.o).map (fun x=>x.map (Qy [(0,false),(1,true),(2,true),(3,false),(4,false),(5,true),(6,false),(7,false),(8,false),(9,true),(10,false)])),true,true⟩,_]⟩:MS)=_; rw[DF (DY w.b),DF (FZ w.tasks)]; rfl))) ⟨ax _,aN _,rfl⟩ ?_
   clear hb hol hk h this out
   rintro⟨k,out⟩ ⟨hk,hol,hb⟩
   dsimp only at hk hol hb
   simp only[go_sem,ae]
   refine cndC.mk (fun h=>?_) (fun h=>?_)
   ·have hk':k<w.deeds.length:=by simpa using h
    rw[aG hk'] at hb
    have hr:=f8.2 _ (aj hk')
    have hol2:out.length+1≤2147483648:=by omega
    simp only[go_sem,ae,AA _ hk',hk',aJ]
    refine DrawK.mkE ?_
    simp only[go_sem,AA _ hk',hk']
    refine CZ (ZR w.deeds[k] hr) ?_
    simp only[go_sem,bK,dm,AA _ hk',hk',hol2,nrD,aC,aJ,wrap_i64 (n:=(k:Int)+1) (by omega) (by omega)]
    refine⟨(k+1,out ++ [w.deeds[k]]),Head.selAbs [(0,false),(1,true),(2,true),(3,false),(4,false),(5,true),(6,false),(7,false),(8,false),(9,true),(17,true),(12,false),(13,true),(14,false),(15,true)] 11 10 ⟨rfl,rfl,rfl,rfl,rfl,Be _,AQ DRef.pure,Dq (DY _),Be _,AQ DDead.pure,Be _,Dq (FZ _),I7 DDeed.o_nr _ out rfl,AQ DVal.pure,Dq (BG _),Be _,Dq (A7 _),trivial⟩ ⟨out.length,out.map DDeed.o ++ [DDeed.o w.deeds[k]],_,DDeed.o w.deeds[k],_,⟨W_ 10,rfl,I5 DDeed.o_nr _ out _ _,by simp,rfl⟩,
     (by rw[DDeed.o_eq,DQuery.o_eq,DResult.o_eq,DPred.o_eq]; exact⟨rfl,rfl,rfl,rfl,rfl,rfl,rfl,rfl,CV _,by simp[D7],rfl,rfl,rfl,rfl,rfl,rfl,rfl,rfl,rfl,rfl,rfl,rfl,rfl,rfl,rfl,rfl,rfl,rfl,DF (BG _),rfl,BG _,by simp[D7],rfl,rfl,rfl,rfl,rfl,rfl,Am _,by simp[D7],rfl,rfl,DF (A7 _),rfl,A7 _,by simp[D7],rfl,rfl,rfl,rfl,rfl,rfl,rfl,rfl,rfl,rfl,rfl,rfl,rfl,rfl,rfl,rfl,rfl,rfl,rfl,rfl,fun l hl=>by simp[D7] at hl; omega⟩),⟨rfl, ?tr⟩, ?eq⟩,⟨hk',by simp; omega,(bM _ _ _).trans hb⟩,by simp only; omega⟩
    case tr =>
     unfold A8
     rw[BJ]
     show ([_,_,_,_,_,⟨160,5,(w.b.map DBuf.o).map (fun x=>x.map (Qy [(0,false),(1,true),(2,true),(3,false),(4,false),(5,true),(6,false),(7,false),(8,false),(9,true),(17,true),(12,false),(13,true),(14,false),(15,true)])),true,true⟩,_,_,_,⟨142,25,(w.tasks.map DTask.o).map (fun x=>x.map (Qy [(0,false),(1,true),(2,true),(3,false),(4,false),(5,true),(6,false),(7,false),(8,false),(9,true),(17,true),(12,false),(13,true),(14,false),(15,true)])),true,true⟩,_]:List Ob).all (Az 11)=true
     rw[DF (DY w.b),DF (FZ w.tasks)]
     exact AG8 (ABx rfl rfl rfl (AP (Am _)) (AP (ER _)) (AP (DY _)) (AP (Am _)) (AP (Jh _)) (AP (Am _)) (AP (FZ _))) (AP (Iy _))
    case eq =>
     unfold A8
     rw[BJ,Vp]
     show (⟨78,_,[_,_,_,_,_,⟨160,5,(w.b.map DBuf.o).map (fun x=>x.map (Qy [(0,false),(1,true),(2,true),(3,false),(4,false),(5,true),(6,false),(7,false),(8,false),(9,true),(17,true),(12,false),(13,true),(14,false),(15,true)])),true,true⟩,_,_,_,⟨142,25,(w.tasks.map DTask.o).map (fun x=>x.map (Qy [(0,false),(1,true),(2,true),(3,false),(4,false),(5,true),(6,false),(7,false),(8,false),(9,true),(17,true),(12,false),(13,true),(14,false),(15,true)])),true,true⟩,_]⟩:MS)=_; rw[DF (DY w.b),DF (FZ w.tasks)]; rfl
   ·have hk':k=w.deeds.length:=by simp at h; omega
    subst hk'
    rw[aU] at hb
    have:out=w.deeds:=by simpa using hb
    rw[this]
    simp only[go_sem,Iy,FZ,DY,Am,ER,Jh]
    try simp[AU,AO]
end Go.Proofs.YtnfbaclikokapaaGreat
