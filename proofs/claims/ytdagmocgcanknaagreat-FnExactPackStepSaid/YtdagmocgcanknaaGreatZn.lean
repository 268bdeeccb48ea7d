/- A part. -/
import Derived.Test.YtdagmocgcanknaaGreatZd
import Derived.Test.YtdagmocgcanknaaGreatZk
set_option linter.unusedSimpArgs false
set_option linter.unusedVariables false
set_option maxHeartbeats 8000000
set_option maxRecDepth 10000
open Go.Proofs.Tryz
namespace Go.Proofs.YtdagmocgcanknaaGreat
open Go.Vm
section
variable {p q r:Prop}
theorem AQm(h:p:=by kernel_rfl):p:=h
end
theorem Sr (l:List DRef):Ll 5 (l.map DRef.c)=true:=O1 (fun _=>rfl) l
theorem KU (l:List DRef) (h:l.length<=1048576):Ctr prog 108 [.c (.sl (l.map DRef.c))] [.own 139 5 (l.map DRef.c) true]:=by refine CM call108 func108 ntmps108 results108 fun hw=>?_;have hl:l.length<=2147483648:=AOl;simp only[go_sem,Sr,aa,hl,au,BC];try simp
theorem UQ (d:DDir) (h:d.l.length<=1048576):Ctr prog 98 [.agg d.c] [.agg d.o]:=by refine CM call98 func98 ntmps98 results98 fun hw=>?_;simp only[go_sem];refine AAR ?_;simp only[go_sem];refine ABg _ (KU d.l h) ?_;simp only[go_sem,BC];try exact AIG
theorem Wq (d:DDir) (h:d.l.length<=1048576):Ctr prog 58 [.agg d.c] [.agg d.o]:=by refine CM call58 func58 ntmps58 results58 fun hw=>?_;have hl:d.l.length<=2147483648:=AOl;simp only[go_sem];refine AAR ?_;simp only[go_sem,Sr,aa,hl,au,BC];try exact AIG
theorem AF7 {N:Nat} {a b c d:Ob} (ha:Aq N a=true) (hb:Aq N b=true) (hc:Aq N c=true) (hd:Aq N d=true) : [a,b,c,d].all (Aq N)=true:=by simp[ha,hb,hc,hd]
def wZ (n:Int):List Cl:=[.v (.int .i64 n),.v (.slice none 0 0)]
def zU (n:Int) (l:Nat):List Cl:=[.v (.int .i64 n),.ref l]
@[go_sem] theorem AJy (n:Int):wZ n = [.v (.int .i64 n),.v (.slice none 0 0)]:=rfl
@[go_sem] theorem AIc (n:Int) (l:Nat):zU n l = [.v (.int .i64 n),.ref l]:=rfl
theorem ZJ (c:DChunk) (hc:FD c):Ctr prog 193 [.agg c.c] [.agg c.o]:=by
 rw[CO] at hc;refine CM call193 func193 ntmps193 results193 fun hw=>?_;have hlen:=hc.1;simp only[go_sem];refine AAv [] (A:=Nat×List DSlot) (fun x=>[(12,.c (.v (.int .i64 (x.1))))]) (fun x=>[⟨143,2,[c.c],true,true⟩,⟨143,2,[wZ 0],true,true⟩,⟨143,2,[zU c.next 3],true,true⟩,⟨189,2,x.2.map DSlot.o,true,true⟩]) (fun x=>x.1<=c.l.length/\x.2.length=x.1/\x.2++c.l.drop x.1=c.l) (fun x=>c.l.length-x.1) (0,[]) (Head.trans (Head.nilR 2 1 189 2 ⟨143,2,[wZ c.next],true,true⟩ (wZ c.next) rfl rfl rfl) (AAS [(0,false),(1,true),(2,true),(3,false)] ⟨rfl,rfl,rfl,rfl,rfl,rfl,trivial⟩ rfl)) ⟨aq _,rfl,rfl⟩ ?_;rintro⟨k,out⟩ ⟨hk,hol,hb⟩;dsimp only at hk hol hb;refine AOd (fun h=>?_) fun h=>?_
 .have hk':k<c.l.length:=by simpa using h
  rw[aB hk'] at hb;have hr:=hc.2 _ (an hk');rw[Jk] at hr;have hol2:out.length+1<=2147483648:=AOl;have hnr:∀ (a:Int) (l:Nat),DR [[Cl.v (.int .i64 a),.ref l]]=false:=fun _ _=>rfl;simp only[go_sem,AA _ hk',hk'];refine ACi 6 8 [0,1,2,3,4,5,6,7,8,9,10,11] [7,8] rfl AQm rfl AQm ?_;refine AAR ?_;simp only[go_sem,AA _ hk',hk'];refine ABg _ (F_ c.l[k].l hr.1) ?_;simp only[go_sem,aI,aM,AA _ hk',hk',hol2,hnr,Om,ax,au,wrap_i64 (n:=(k:Int)+1) AOl AOl];exact AJA
 .have hk':k=c.l.length:=by simp at h; omega
  subst hk';rw[aK] at hb;have:out=c.l:=APa;subst this;simp only[go_sem,Gq];try exact AIG
theorem qO (c:DChunk) (hc:FD c):Ctr prog 222 [.agg c.c] [.agg c.o]:=by
 rw[CO] at hc;refine CM call222 func222 ntmps222 results222 fun hw=>?_;have hlen:=hc.1;simp only[go_sem];refine AAv [8,7] (A:=Nat×List DSlot) (fun x=>[(4,.c (.v (.int .i64 (x.1)))),(3,.lp 2 0 0)]) (fun x=>[⟨143,2,[c.c],true,true⟩,⟨143,2,[wZ 0],true,true⟩,⟨143,2,[zU c.next 3],true,true⟩,⟨189,2,x.2.map DSlot.o,true,true⟩]) (fun x=>x.1<=c.l.length/\x.2.length=x.1/\x.2++c.l.drop x.1=c.l) (fun x=>c.l.length-x.1) (0,[]) (AAS [(0,false),(1,true),(3,true),(2,false)] ⟨rfl,rfl,rfl,rfl,rfl,rfl,trivial⟩ rfl) ⟨aq _,rfl,rfl⟩ ?_;rintro⟨k,out⟩ ⟨hk,hol,hb⟩;dsimp only at hk hol hb;refine AOd (fun h=>?_) fun h=>?_
 .have hk':k<c.l.length:=by simpa using h
  rw[aB hk'] at hb;have hr:=hc.2 _ (an hk');rw[Jk] at hr;have hol2:out.length+1<=2147483648:=AOl;have hsl2:c.l[k].l.length<=2147483648:=by have:=hr.1; omega
  have hnr:∀ (a:Int) (l:Nat),DR [[Cl.v (.int .i64 a),.ref l]]=false:=fun _ _=>rfl;simp only[go_sem,AA _ hk',hk'];refine ACi 15 17 [0,1,2,3,4,5,6,7,8,9,10,11,12,13,14,15,16,17,18,19,20] [16,17] rfl AQm rfl AQm ?_;refine AAR ?_;simp only[go_sem,AA _ hk',hk',IQ,hsl2,hol2,hnr,aI,aM,Om,ax,au,wrap_i64 (n:=(k:Int)+1) AOl AOl];exact AJA
 .have hk':k=c.l.length:=by simp at h; omega
  subst hk';rw[aK] at hb;have:out=c.l:=APa;subst this;simp only[go_sem,Gq];try exact AIG
theorem OI (l:List DBuf) (hl:fitS Ef l):Ctr prog 99 [.c (.sl (l.map DBuf.c))] [.own 145 5 (l.map DBuf.o) true]:=by
 refine CM call99 func99 ntmps99 results99 fun hw=>?_;have hlen:=hl.1;simp only[go_sem,aa];refine AAv [6] (A:=Nat×List DBuf) (fun x=>[(9,.c (.v (.int .i64 (x.1)))),(3,.c (.ref 0))]) (fun x=>[⟨145,5,x.2.map DBuf.o,true,true⟩]) (fun x=>x.1<=l.length/\x.2.length<=x.1/\x.2++l.drop x.1=l) (fun x=>l.length-x.1) (0,[]) (AAS [(0,false)] ⟨rfl,rfl,rfl,trivial⟩ rfl) ⟨aq _,aG _,rfl⟩ ?_;rintro⟨k,out⟩ ⟨hk,hol,hb⟩;dsimp only at hk hol hb;refine AOe (fun h=>?_) fun h=>?_
 .have hk':k<l.length:=by simpa using h
  rw[aB hk'] at hb;have hr:=hl.2 _ (an hk');rw[GR] at hr;have hol2:out.length+1<=2147483648:=AOl;have hnr:∀ (a b c:Int) (m n:Nat),DR [[Cl.v (.int .i64 a),Cl.v (.int .i64 b),Cl.v (.int .i64 c),.ref m,.ref n]]=false:=fun _ _ _ _ _=>rfl;simp only[go_sem,aa,AA _ hk',hk',au];refine ACi 10 12 [0,1,2,3,4,5,6,7,8,9,10,11,12,13,14] [11,12] rfl AQm rfl AQm ?_;refine AAR ?_;simp only[go_sem,AA _ hk',hk'];refine CZ (ZJ l[k].c0 hr.1) ?_;simp only[go_sem,AA _ hk',hk'];refine ABg _ (GX l[k].g (by have:=hr.2; omega)) ?_;simp only[go_sem,aI,aM,AA _ hk',hk',hol2,hnr,Om,ax,au,wrap_i64 (n:=(k:Int)+1) AOl AOl]
  refine⟨(k+1,out ++ [l[k]]),ABi [(5,true),(2,true),(3,false)] 1 0 ⟨rfl,rfl,Ic DBuf.o_nr _ out rfl,D5 (Gq _),AY byteC.pure,trivial⟩ ⟨out.length,out.map DBuf.o ++ [DBuf.o l[k]],_,DBuf.o l[k],_,⟨dD 0,rfl,Ib DBuf.o_nr _ out _ _,AOm,rfl⟩,
   ⟨rfl,rfl,rfl,rfl,rfl,rfl,rfl,rfl, ?xs,rfl, ?nr,AO4,rfl,rfl,rfl,rfl,CQ _,AO4,fun l hl=>AO0⟩,⟨rfl, ?tr⟩, ?eq⟩,⟨hk',AOn,(ba _ _ _).trans hb⟩,AOp⟩
  case xs=>exact Df (Gq _)
  case nr=>exact Gq _
  case tr=>unfold BJ; rw[BM]; exact allA (AX (A7 _))
  case eq=>unfold BJ; rw[BM,bl]; rfl
 .have hk':k=l.length:=by simp at h; omega
  subst hk';rw[aK] at hb;have:out=l:=APa;subst this;exact ALx
theorem qP (b:DBuf) (hb:Ef b):Ctr prog 141 [.agg b.c] [.agg b.o]:=by
 rw[GR] at hb;refine CM call141 func141 ntmps141 results141 fun hw=>?_;have hl:b.g.length<=2147483648:=by have:=hb.2; omega
 simp only[go_sem];refine ACb 6 7 [0,1,2,3,4,5,6,7,8,9,10,11,12] [0,1,2,3,4,5,7,6,8,9,10,11,12] rfl AQm AQm ?_ ?_
 all_goals
  refine AAR ?_
  simp only[go_sem,CQ]
  refine CZ (qO b.c0 hb.1) ?_
  simp only[go_sem,Fh,aa,hl,au,CQ,Gq]
  try exact AIG
theorem Su (l:List DBuf) (hl:fitS Ef l):Ctr prog 59 [.c (.sl (l.map DBuf.c))] [.own 145 5 (l.map DBuf.o) true]:=by
 refine CM call59 func59 ntmps59 results59 fun hw=>?_;have hlen:=hl.1;simp only[go_sem,aa];refine AAv [6] (A:=Nat×List DBuf) (fun x=>[(4,.c (.v (.int .i64 (x.1)))),(3,.c (.ref 0))]) (fun x=>[⟨145,5,x.2.map DBuf.o,true,true⟩]) (fun x=>x.1<=l.length/\x.2.length<=x.1/\x.2++l.drop x.1=l) (fun x=>l.length-x.1) (0,[]) (AAS [(0,false)] ⟨rfl,rfl,rfl,trivial⟩ rfl) ⟨aq _,aG _,rfl⟩ ?_;rintro⟨k,out⟩ ⟨hk,hol,hb⟩;dsimp only at hk hol hb;refine AOe (fun h=>?_) fun h=>?_
 .have hk':k<l.length:=by simpa using h
  rw[aB hk'] at hb;have hr:=hl.2 _ (an hk');have hol2:out.length+1<=2147483648:=AOl;have hnr:∀ (a b c:Int) (m n:Nat),DR [[Cl.v (.int .i64 a),Cl.v (.int .i64 b),Cl.v (.int .i64 c),.ref m,.ref n]]=false:=fun _ _ _ _ _=>rfl;simp only[go_sem,aa,AA _ hk',hk',au];refine CW (qP l[k] hr) fun _=>?_;simp only[go_sem,aI,aM,AA _ hk',hk',hol2,hnr,Om,ax,au,wrap_i64 (n:=(k:Int)+1) AOl AOl]
  refine⟨(k+1,out ++ [l[k]]),ABi [(5,true),(1,true),(2,false)] 1 0 ⟨rfl,rfl,Ic DBuf.o_nr _ out rfl,D5 (Gq _),AY byteC.pure,trivial⟩ ⟨out.length,out.map DBuf.o ++ [DBuf.o l[k]],_,DBuf.o l[k],_,⟨dD 0,rfl,Ib DBuf.o_nr _ out _ _,AOm,rfl⟩,
   ⟨rfl,rfl,rfl,rfl,rfl,rfl,rfl,rfl, ?xs,rfl, ?nr,AO4,rfl,rfl,rfl,rfl,CQ _,AO4,fun l hl=>AO0⟩,⟨rfl, ?tr⟩, ?eq⟩,⟨hk',AOn,(ba _ _ _).trans hb⟩,AOp⟩
  case xs=>exact Df (Gq _)
  case nr=>exact Gq _
  case tr=>unfold BJ; rw[BM]; exact allA (AX (A7 _))
  case eq=>unfold BJ; rw[BM,bl]; rfl
 .have hk':k=l.length:=by simp at h; omega
  subst hk';rw[aK] at hb;have:out=l:=APa;subst this;exact ALx
theorem X_ (r:DResult) (hr:Kw r):Ctr prog 198 [.agg r.c] [.agg r.o]:=by rw[NE] at hr;refine CM call198 func198 ntmps198 results198 fun hw=>?_;simp only[go_sem];refine AAR ?_;simp only[go_sem];refine CZ (TB r.rows hr.1) ?_;simp only[go_sem,Aj];try exact AIG
theorem iH (r:DResult) (hr:Kw r):Ctr prog 225 [.agg r.c] [.agg r.o]:=by rw[NE] at hr;refine CM call225 func225 ntmps225 results225 fun hw=>?_;simp only[go_sem];refine CW (Qp r.rows hr.1) fun _=>?_;simp only[go_sem,Aj];try exact AIG
def zV:List Cl:=[.v (.int .i64 0),.v (.int .i64 0),.v (.int .i64 0),.v (.int .i64 0),.v (.int .i64 0),.v (.string ByteArray.empty),.v (.slice none 0 0)]
def zW (p:DPred):List Cl:=[.v (.int .i64 p.kind),.v (.int .i64 p.col),.v (.int .i64 p.op),.v (.int .i64 p.v.ty),.v (.int .i64 p.v.n),.v (.string p.v.s),.v (.slice none 0 0)]
def zX (p:DPred) (l:Nat):List Cl:=[.v (.int .i64 p.kind),.v (.int .i64 p.col),.v (.int .i64 p.op),.v (.int .i64 p.v.ty),.v (.int .i64 p.v.n),.v (.string p.v.s),.ref l]
@[go_sem] theorem AId:zV = [.v (.int .i64 0),.v (.int .i64 0),.v (.int .i64 0),.v (.int .i64 0),.v (.int .i64 0),.v (.string ByteArray.empty),.v (.slice none 0 0)]:=rfl
@[go_sem] theorem AIe (p:DPred):zW p = [.v (.int .i64 p.kind),.v (.int .i64 p.col),.v (.int .i64 p.op),.v (.int .i64 p.v.ty),.v (.int .i64 p.v.n),.v (.string p.v.s),.v (.slice none 0 0)]:=rfl
@[go_sem] theorem AIf (p:DPred) (l:Nat):zX p l = [.v (.int .i64 p.kind),.v (.int .i64 p.col),.v (.int .i64 p.op),.v (.int .i64 p.v.ty),.v (.int .i64 p.v.n),.v (.string p.v.s),.ref l]:=rfl
theorem qQ (p:DPred) (hp:BF p) (hx:∀ x∈p.l,Ctr prog 259 [.agg x.c] [.agg x.o]):Ctr prog 259 [.agg p.c] [.agg p.o]:=by
 refine CM call259 func259 ntmps259 results259 fun hw=>?_;have hpl:p.l.length<=1048576:=AQB;simp only[go_sem];refine AAv [] (A:=Nat×List DPred) (fun x=>[(18,.c (.v (.int .i64 (x.1))))]) (fun x=>[⟨115,7,[iG p],true,true⟩,⟨115,7,[zV],true,true⟩,⟨115,7,[zX p 3],true,true⟩,⟨115,7,x.2.map DPred.o,true,true⟩]) (fun x=>x.1<=p.l.length/\x.2.length=x.1/\x.2++p.l.drop x.1=p.l) (fun x=>p.l.length-x.1) (0,[]) (Head.trans (Head.nilR 2 6 115 7 ⟨115,7,[zW p],true,true⟩ (zW p) rfl rfl rfl) (AAS [(0,false),(1,true),(2,true),(3,false)] ⟨rfl,rfl,rfl,rfl,rfl,rfl,trivial⟩ rfl)) ⟨aq _,rfl,rfl⟩ ?_;rintro⟨k,out⟩ ⟨hk,hol,hb⟩;dsimp only at hk hol hb;refine AOd (fun h=>?_) fun h=>?_
 .have hk':k<p.l.length:=by simpa using h
  rw[aB hk'] at hb;have hol2:out.length+1<=2147483648:=AOl;have hnr:∀ (a b c d e:Int) (t:ByteArray) (l:Nat),DR [[Cl.v (.int .i64 a),Cl.v (.int .i64 b),Cl.v (.int .i64 c),Cl.v (.int .i64 d),Cl.v (.int .i64 e),Cl.v (.string t),.ref l]]=false:=fun _ _ _ _ _ _ _=>rfl;simp only[go_sem,AA _ hk',hk'];refine AAR ?_;simp only[go_sem,AA _ hk',hk'];refine CZ (hx p.l[k] (an hk')) ?_;simp only[go_sem,aI,aM,AA _ hk',hk',hol2,hnr,Om,ax,au,wrap_i64 (n:=(k:Int)+1) AOl AOl]
  refine⟨(k+1,out ++ [p.l[k]]),ABi [(0,false),(1,true),(2,true),(7,true),(5,true)] 4 3 ⟨rfl,rfl,rfl,rfl,rfl,Ic DPred.o_nr _ out rfl,D5 (BZ _),trivial⟩ ⟨out.length,out.map DPred.o ++ [DPred.o p.l[k]],_,DPred.o p.l[k],_,⟨dD 3,rfl,Ib DPred.o_nr _ out _ _,AOm,rfl⟩,
   (by rw[DPred.o_eq]; exact⟨rfl,rfl,rfl,rfl,rfl,rfl,rfl,rfl,rfl,rfl,rfl,rfl,rfl,rfl,Df (BZ _),rfl,BZ _,AO4,fun l hl=>AO0⟩),⟨rfl, ?tr⟩, ?eq⟩,⟨hk',AOn,(ba _ _ _).trans hb⟩,AOp⟩
  case tr=>unfold BJ; rw[BM]; exact AF7 rfl rfl rfl (AX (BZ _))
  case eq=>unfold BJ; rw[BM,bl]; rfl
 .have hk':k=p.l.length:=by simp at h; omega
  subst hk';rw[aK] at hb;have:out=p.l:=APa;rw[<- this];simp only[go_sem,BZ];try exact AIG
theorem zY (p:DPred) (hp:BF p) (hx:∀ x∈p.l,Ctr prog 223 [.agg x.c] [.agg x.o]):Ctr prog 223 [.agg p.c] [.agg p.o]:=by
 refine CM call223 func223 ntmps223 results223 fun hw=>?_;have hpl:p.l.length<=1048576:=AQB;simp only[go_sem];refine AAv [8,7] (A:=Nat×List DPred) (fun x=>[(4,.c (.v (.int .i64 (x.1))))]) (fun x=>[⟨115,7,[iG p],true,true⟩,⟨115,7,[zV],true,true⟩,⟨115,7,[zX p 3],true,true⟩,⟨115,7,x.2.map DPred.o,true,true⟩]) (fun x=>x.1<=p.l.length/\x.2.length=x.1/\x.2++p.l.drop x.1=p.l) (fun x=>p.l.length-x.1) (0,[]) (AAS [(0,false),(1,true),(2,true),(3,false)] ⟨rfl,rfl,rfl,rfl,rfl,rfl,trivial⟩ rfl) ⟨aq _,rfl,rfl⟩ ?_;rintro⟨k,out⟩ ⟨hk,hol,hb⟩;dsimp only at hk hol hb;refine AOd (fun h=>?_) fun h=>?_
 .have hk':k<p.l.length:=by simpa using h
  rw[aB hk'] at hb;have hol2:out.length+1<=2147483648:=AOl;have hnr:∀ (a b c d e:Int) (t:ByteArray) (l:Nat),DR [[Cl.v (.int .i64 a),Cl.v (.int .i64 b),Cl.v (.int .i64 c),Cl.v (.int .i64 d),Cl.v (.int .i64 e),Cl.v (.string t),.ref l]]=false:=fun _ _ _ _ _ _ _=>rfl;simp only[go_sem,AA _ hk',hk'];refine CW (hx p.l[k] (an hk')) fun _=>?_;simp only[go_sem,aI,aM,AA _ hk',hk',hol2,hnr,Om,ax,au,wrap_i64 (n:=(k:Int)+1) AOl AOl]
  refine⟨(k+1,out ++ [p.l[k]]),ABi [(0,false),(1,true),(2,true),(7,true),(4,true)] 4 3 ⟨rfl,rfl,rfl,rfl,rfl,Ic DPred.o_nr _ out rfl,D5 (BZ _),trivial⟩ ⟨out.length,out.map DPred.o ++ [DPred.o p.l[k]],_,DPred.o p.l[k],_,⟨dD 3,rfl,Ib DPred.o_nr _ out _ _,AOm,rfl⟩,
   (by rw[DPred.o_eq]; exact⟨rfl,rfl,rfl,rfl,rfl,rfl,rfl,rfl,rfl,rfl,rfl,rfl,rfl,rfl,Df (BZ _),rfl,BZ _,AO4,fun l hl=>AO0⟩),⟨rfl, ?tr⟩, ?eq⟩,⟨hk',AOn,(ba _ _ _).trans hb⟩,AOp⟩
  case tr=>unfold BJ; rw[BM]; exact AF7 rfl rfl rfl (AX (BZ _))
  case eq=>unfold BJ; rw[BM,bl]; rfl
 .have hk':k=p.l.length:=by simp at h; omega
  subst hk';rw[aK] at hb;have:out=p.l:=APa;rw[<- this];simp only[go_sem,BZ];try exact AIG
theorem lT {C:DPred->Prop} (h:∀ p,BF p->(∀ x∈p.l,C x)->C p):∀ (n:Nat) (p:DPred),SizeOf.sizeOf p<=n->BF p->C p:=by
 intro n;induction n with
 | zero=>intro p h; cases p; simp at h
 | succ n ih =>
  intro p hs hp
  refine h p hp fun x hx=>ih x ?_ ?_
  .exact AMg
  .rw[Bc] at hp; exact hp.2.2 x hx
theorem iI (p:DPred) (hp:BF p):Ctr prog 259 [.agg p.c] [.agg p.o]:=lT qQ _ p (aG _) hp
theorem qR (p:DPred) (hp:BF p):Ctr prog 223 [.agg p.c] [.agg p.o]:=lT zY _ p (aG _) hp
theorem Tu (l:List Int):Ll 1 (l.map intC)=true:=O1 (fun _=>rfl) l
theorem KW (l:List Int) (h:l.length<=1048576):Ctr prog 97 [.c (.sl (l.map intC))] [.own 3 1 (l.map intC) true]:=by refine CM call97 func97 ntmps97 results97 fun hw=>?_;have hl:l.length<=2147483648:=AOl;simp only[go_sem,Tu,aa,hl,au,AQ];try simp
theorem Qu (q:DQuery) (hq:En q):Ctr prog 196 [.agg q.c] [.agg q.o]:=by rw[GY] at hq;refine CM call196 func196 ntmps196 results196 fun hw=>?_;simp only[go_sem];refine AAR ?_;simp only[go_sem];refine CZ (iI q.p hq.1) ?_;simp only[go_sem];refine ABg _ (KW q.out hq.2) ?_;simp only[go_sem,AQ,BZ];try exact AIG
theorem Ws (q:DQuery) (hq:En q):Ctr prog 142 [.agg q.c] [.agg q.o]:=by
 rw[GY] at hq;refine CM call142 func142 ntmps142 results142 fun hw=>?_;have hl:q.out.length<=2147483648:=by have:=hq.2; omega
 simp only[go_sem];refine CW (qR q.p hq.1) fun _=>?_;simp only[go_sem,Tu,aa,hl,au,AQ,BZ];try exact AIG
theorem iJ (t:DTask) (ht:Ei t):Ctr prog 100 [.agg t.c] [.agg t.o]:=by rw[Dy] at ht;refine CM call100 func100 ntmps100 results100 fun hw=>?_;simp only[go_sem];refine AAR ?_;simp only[go_sem];refine ABg _ (F_ t.r ht.1.1) ?_;simp only[go_sem];refine CZ (Qu t.q ht.2.1) ?_;simp only[go_sem];refine ABg _ (KU t.l ht.2.2.1) ?_;simp only[go_sem];refine CZ (TB t.got ht.2.2.2) ?_;simp only[go_sem,AQ,BZ,Ce,BC,Aj];try exact AIG
theorem Wu (t:DTask) (ht:Ei t):Ctr prog 60 [.agg t.c] [.agg t.o]:=by
 rw[Dy] at ht;refine CM call60 func60 ntmps60 results60 fun hw=>?_;have h1:t.r.length<=2147483648:=by have:=ht.1.1; omega
 have h2:t.l.length<=2147483648:=by have:=ht.2.2.1; omega
 simp only[go_sem,IQ,aa,h1,au];refine CW (Ws t.q ht.2.1) fun _=>?_;simp only[go_sem,Sr,aa,h2,au];refine CW (Qp t.got ht.2.2.2) fun _=>?_;simp only[go_sem,AQ,BZ,Ce,BC,Aj];try exact AIG
theorem iK (d:DDeed) (hd:Ej d):Ctr prog 101 [.agg d.c] [.agg d.o]:=by rw[G8] at hd;refine CM call101 func101 ntmps101 results101 fun hw=>?_;simp only[go_sem];refine AAR ?_;simp only[go_sem];refine ABg _ (F_ d.r hd.1.1) ?_;simp only[go_sem];refine CZ (Qu d.q hd.2.1) ?_;simp only[go_sem];refine CZ (X_ d.res hd.2.2) ?_;simp only[go_sem,AQ,BZ,Ce,BC,Aj];try exact AIG
theorem Wv (d:DDeed) (hd:Ej d):Ctr prog 144 [.agg d.c] [.agg d.o]:=by
 rw[G8] at hd;refine CM call144 func144 ntmps144 results144 fun hw=>?_;have h1:d.r.length<=2147483648:=by have:=hd.1.1; omega
 simp only[go_sem,IQ,aa,h1,au];refine CW (Ws d.q hd.2.1) fun _=>?_;simp only[go_sem,aa,au];refine CW (iH d.res hd.2.2) fun _=>?_;simp only[go_sem,AQ,BZ,Ce,BC,Aj];try exact AIG
theorem nrT {a1 a2 a3 a4 a5 a6 a7 a8 a9 b1 b2 b3 b4 b5 b6 b7 b8 b9:Int} {t1:ByteArray} {c1:Bool} {n1 n2 n3 n4 n5:Nat}:DR [[Cl.v (.int .i64 a1),Cl.v (.int .i64 a2),Cl.v (.int .i64 a3),.ref n1,Cl.v (.int .i64 a4),Cl.v (.int .i64 a5),Cl.v (.int .i64 a6),Cl.v (.int .i64 a7),Cl.v (.int .i64 a8),Cl.v (.int .i64 a9),Cl.v (.int .i64 b1),Cl.v (.string t1),.ref n2,Cl.v (.int .i64 b2),.ref n3,Cl.v (.int .i64 b3),Cl.v (.int .i64 b4),.ref n4,Cl.v (.int .i64 b5),Cl.v (.int .i64 b6),Cl.v (.int .i64 b7),Cl.v (.int .i64 b8),Cl.v (.int .i64 b9),Cl.v (.bool c1),.ref n5]]=false:=rfl
theorem nrD {a1 a2 a3 a4 a5 a6 a7 a8 a9 b1 b2 b3 b4 b5 b6 b7 b8 b9:Int} {t1 t2:ByteArray} {c1:Bool} {n1 n2 n3 n4:Nat}:DR [[Cl.v (.int .i64 a1),Cl.v (.int .i64 a2),.ref n1,Cl.v (.int .i64 a3),Cl.v (.int .i64 a5),Cl.v (.int .i64 a6),Cl.v (.int .i64 a7),Cl.v (.int .i64 a8),Cl.v (.int .i64 a9),Cl.v (.int .i64 b1),Cl.v (.string t1),.ref n2,Cl.v (.int .i64 b2),.ref n3,.ref n4,Cl.v (.int .i64 b3),Cl.v (.bool c1),Cl.v (.int .i64 b4),Cl.v (.int .i64 b5),Cl.v (.string t2),Cl.v (.int .i64 b6),Cl.v (.int .i64 b7),Cl.v (.int .i64 b8),Cl.v (.int .i64 b9),Cl.v (.int .i64 a4)]]=false:=rfl
theorem wo (l:List DDeed) (hl:fitS Ej l):Ctr prog 61 [.c (.sl (l.map DDeed.c))] [.own 135 25 (l.map DDeed.o) true]:=by
 refine CM call61 func61 ntmps61 results61 fun hw=>?_;have hlen:=hl.1;simp only[go_sem,aa];refine AAv [6] (A:=Nat×List DDeed) (fun x=>[(4,.c (.v (.int .i64 (x.1)))),(3,.c (.ref 0))]) (fun x=>[⟨135,25,x.2.map DDeed.o,true,true⟩]) (fun x=>x.1<=l.length/\x.2.length<=x.1/\x.2++l.drop x.1=l) (fun x=>l.length-x.1) (0,[]) (AAS [(0,false)] ⟨rfl,rfl,rfl,trivial⟩ rfl) ⟨aq _,aG _,rfl⟩ ?_;rintro⟨k,out⟩ ⟨hk,hol,hb⟩;dsimp only at hk hol hb;refine AOe (fun h=>?_) fun h=>?_
 .have hk':k<l.length:=by simpa using h
  rw[aB hk'] at hb;have hr:=hl.2 _ (an hk');have hol2:out.length+1<=2147483648:=AOl;simp only[go_sem,aa,AA _ hk',hk',au];refine CW (Wv l[k] hr) fun _=>?_;simp only[go_sem,aI,aM,AA _ hk',hk',hol2,nrD,ax,au,wrap_i64 (n:=(k:Int)+1) AOl AOl]
  refine⟨(k+1,out ++ [l[k]]),ABi [(7,true),(1,false),(2,true),(3,false),(4,true)] 1 0 ⟨rfl,rfl,Ic DDeed.o_nr _ out rfl,AY DVal.pure,D5 (BZ _),CX _,D5 (Aj _),trivial⟩ ⟨out.length,out.map DDeed.o ++ [DDeed.o l[k]],_,DDeed.o l[k],_,⟨dD 0,rfl,Ib DDeed.o_nr _ out _ _,AOm,rfl⟩,
   (by rw[DDeed.o_eq,DQuery.o_eq,DResult.o_eq,DPred.o_eq]; exact⟨rfl,rfl,rfl,rfl,rfl,rfl,rfl,rfl,Ce _,AO4,rfl,rfl,rfl,rfl,rfl,rfl,rfl,rfl,rfl,rfl,rfl,rfl,rfl,rfl,rfl,rfl,rfl,rfl,Df (BZ _),rfl,BZ _,AO4,rfl,rfl,rfl,rfl,rfl,rfl,AQ _,AO4,rfl,rfl,Df (Aj _),rfl,Aj _,AO4,rfl,rfl,rfl,rfl,rfl,rfl,rfl,rfl,rfl,rfl,rfl,rfl,rfl,rfl,rfl,rfl,rfl,rfl,rfl,rfl,fun l hl=>AO0⟩),⟨rfl, ?tr⟩, ?eq⟩,⟨hk',AOn,(ba _ _ _).trans hb⟩,AOp⟩
  case tr=>unfold BJ; rw[BM]; exact allA (AX (Cb _))
  case eq=>unfold BJ; rw[BM,bl]; rfl
 .have hk':k=l.length:=by simp at h; omega
  subst hk';rw[aK] at hb;have:out=l:=APa;subst this;simp only[go_sem,Cb];try simp
def wRow (w:DWorld) (tc dc:Cl):List Cl:=[.ref 3,.v (.int .i64 w.c0.slots),.v (.int .i64 w.c0.bufs),.v (.int .i64 w.time),.v (.int .i64 w.t),.v (.int .i64 w.e),.v (.int .i64 w.d.ver),.ref 4,.ref 5,.ref 6,.ref 7,.ref 8,tc,dc]
def AA_:List Cl:=[.v (.slice none 0 0),.v (.int .i64 0),.v (.int .i64 0),.v (.int .i64 0),.v (.int .i64 0),.v (.int .i64 0),.v (.int .i64 0),.v (.slice none 0 0),.v (.slice none 0 0),.v (.slice none 0 0),.v (.slice none 0 0),.v (.slice none 0 0),.v (.slice none 0 0),.v (.slice none 0 0)]
@[go_sem] theorem AKd (w:DWorld) (tc dc:Cl):wRow w tc dc = [.ref 3,.v (.int .i64 w.c0.slots),.v (.int .i64 w.c0.bufs),.v (.int .i64 w.time),.v (.int .i64 w.t),.v (.int .i64 w.e),.v (.int .i64 w.d.ver),.ref 4,.ref 5,.ref 6,.ref 7,.ref 8,tc,dc]:=rfl
@[go_sem] theorem AJz:AA_ = [.v (.slice none 0 0),.v (.int .i64 0),.v (.int .i64 0),.v (.int .i64 0),.v (.int .i64 0),.v (.int .i64 0),.v (.int .i64 0),.v (.slice none 0 0),.v (.slice none 0 0),.v (.slice none 0 0),.v (.slice none 0 0),.v (.slice none 0 0),.v (.slice none 0 0),.v (.slice none 0 0)]:=rfl
theorem AET {N:Nat} {a b c d e f g h i j:Ob} (ha:Aq N a=true) (hb:Aq N b=true) (hc:Aq N c=true) (hd:Aq N d=true) (he:Aq N e=true) (hf:Aq N f=true) (hg:Aq N g=true) (hh:Aq N h=true) (hi:Aq N i=true) (hj:Aq N j=true) : [a,b,c,d,e,f,g,h,i,j].all (Aq N)=true:=by simp[ha,hb,hc,hd,he,hf,hg,hh,hi,hj]
theorem JL (w:DWorld) (hf:AU w):Ctr prog 18 [.agg w.c] [.agg w.o]:=by
 rw[AZ,Jm,GU] at hf;obtain⟨f1,f2,f3,f4,f5,f6,f7,f8⟩:=hf;refine CM call18 func18 ntmps18 results18 fun hw=>?_;have hlen:=f7.1;have f1':w.c0.cols.length<=2147483648:=AOl;have f4':w.m.length<=2147483648:=AOl;have f5':w.x.length<=2147483648:=AOl;have f6':w.p.length<=2147483648:=AOl;simp only[go_sem,Tu,aa,f1',au];refine CW (Wq w.d f2) fun _=>?_;simp only[go_sem];refine AAO _ (Su w.b f3) fun _=>?_;simp only[go_sem,Tu,lX,aa,f4',f5',f6',au];refine AAv [4,6,7,8,9,10,11,12,13,14,15,16,17,18,19,20,21,22,23,24,25,26,27,28,29,30,31,32,33,34,35,36,37,38,39,40] (A:=Nat×List DTask) (fun x=>[(5,.c (.v (.int .i64 (x.1))))]) (fun x=>[⟨44,14,[w.c],true,true⟩,⟨44,14,[AA_],true,true⟩,⟨44,14,[wRow w (.ref 9) (.sl (w.deeds.map DDeed.c))],true,true⟩,⟨3,1,w.c0.cols.map intC,true,true⟩,⟨139,5,w.d.l.map DRef.c,true,true⟩,⟨145,5,w.b.map DBuf.o,true,true⟩,⟨3,1,w.m.map intC,true,true⟩,⟨152,3,w.x.map DDead.c,true,true⟩,⟨3,1,w.p.map intC,true,true⟩,⟨120,25,x.2.map DTask.o,true,true⟩]) (fun x=>x.1<=w.tasks.length/\x.2.length<=x.1/\x.2++w.tasks.drop x.1=w.tasks) (fun x=>w.tasks.length-x.1) (0,[]) (AAS [(0,false),(1,true),(2,true),(4,false),(5,false),(7,true),(9,false),(11,false),(13,false),(14,false)] ⟨rfl,rfl,rfl,rfl,rfl,CX _,AY DRef.pure,D5 (A7 _),CX _,AY DDead.pure,CX _,rfl,trivial⟩ (by show (⟨65,_,[_,_,_,_,_,⟨145,5,(w.b.map DBuf.o).map (fun x=>x.map (QT [(0,false),(1,true),(2,true),(4,false),(5,false),(7,true),(9,false),(11,false),(13,false),(14,false)])),true,true⟩,_,_,_,_]⟩:MS)=_; rw[Df (A7 w.b)]; rfl)) ⟨aq _,aG _,rfl⟩ ?_;rintro⟨k,out⟩ ⟨hk,hol,hb⟩;dsimp only at hk hol hb;refine AOe (fun h=>?_) fun h=>?_
 .have hk':k<w.tasks.length:=by simpa using h
  rw[aB hk'] at hb;have hr:=f7.2 _ (an hk');have hol2:out.length+1<=2147483648:=AOl;simp only[go_sem,aa,AA _ hk',hk',au];refine CW (Wu w.tasks[k] hr) fun _=>?_;simp only[go_sem,aI,aM,AA _ hk',hk',hol2,nrT,ax,au,wrap_i64 (n:=(k:Int)+1) AOl AOl]
  refine⟨(k+1,out ++ [w.tasks[k]]),ABi [(0,false),(1,true),(2,true),(3,false),(4,false),(5,true),(6,false),(7,false),(8,false),(17,true),(10,false),(11,true),(12,false),(13,false),(14,true)] 10 9 ⟨rfl,rfl,rfl,rfl,rfl,CX _,AY DRef.pure,D5 (A7 _),CX _,AY DDead.pure,CX _,Ic DTask.o_nr _ out rfl,AY DVal.pure,D5 (BZ _),CX _,AY DRef.pure,D5 (Aj _),trivial⟩ ⟨out.length,out.map DTask.o ++ [DTask.o w.tasks[k]],_,DTask.o w.tasks[k],_,⟨dD 9,rfl,Ib DTask.o_nr _ out _ _,AOm,rfl⟩,
   (by rw[DTask.o_eq,DQuery.o_eq,DPred.o_eq]; exact⟨rfl,rfl,rfl,rfl,rfl,rfl,rfl,rfl,rfl,rfl,Ce _,AO4,rfl,rfl,rfl,rfl,rfl,rfl,rfl,rfl,rfl,rfl,rfl,rfl,rfl,rfl,rfl,rfl,rfl,rfl,Df (BZ _),rfl,BZ _,AO4,rfl,rfl,rfl,rfl,rfl,rfl,AQ _,AO4,rfl,rfl,rfl,rfl,rfl,rfl,rfl,rfl,BC _,AO4,rfl,rfl,rfl,rfl,rfl,rfl,rfl,rfl,rfl,rfl,rfl,rfl,rfl,rfl,Df (Aj _),rfl,Aj _,AO4,fun l hl=>AO0⟩),⟨rfl, ?tr⟩, ?eq⟩,⟨hk',AOn,(ba _ _ _).trans hb⟩,AOp⟩
  case tr =>
   unfold BJ
   rw[BM]
   show ([_,_,_,_,_,⟨145,5,(w.b.map DBuf.o).map (fun x=>x.map (QT [(0,false),(1,true),(2,true),(3,false),(4,false),(5,true),(6,false),(7,false),(8,false),(17,true),(10,false),(11,true),(12,false),(13,false),(14,true)])),true,true⟩,_,_,_,_]:List Ob).all (Aq 10)=true
   exact AMu
  case eq =>
   unfold BJ
   rw[BM,bl]
   show (⟨65,_,[_,_,_,_,_,⟨145,5,(w.b.map DBuf.o).map (fun x=>x.map (QT [(0,false),(1,true),(2,true),(3,false),(4,false),(5,true),(6,false),(7,false),(8,false),(17,true),(10,false),(11,true),(12,false),(13,false),(14,true)])),true,true⟩,_,_,_,_]⟩:MS)=_; rw[Df (A7 w.b)]; rfl
 .have hk':k=w.tasks.length:=by simp at h; omega
  subst hk';rw[aK] at hb;have:out=w.tasks:=APa;rw[<- this];simp only[go_sem];refine AAO _ (wo w.deeds f8) fun _=>?_;simp only[go_sem,Cb,Ho,A7,AQ,BC,Ci];try exact AIG
@[go_sem] theorem AHv (k:Nat):Region.binds Region.Mode.any { on:=k,ground:=Ground.textOnly Departure.lateStores }=false:=rfl
@[go_sem] theorem AF8 (k:Nat):Region.binds Region.Mode.any { on:=k,ground:=Ground.textOnly Departure.lateStoresUnsure }=false:=rfl
def AGl (w:DWorld):List Cl:=[.ref 2,.v (.int .i64 w.c0.slots),.v (.int .i64 w.c0.bufs),.v (.int .i64 w.time),.v (.int .i64 w.t),.v (.int .i64 w.e),.v (.int .i64 w.d.ver),.ref 4,.ref 5,.ref 6,.ref 8,.ref 9,.v (.slice none 0 0),.v (.slice none 0 0)]
theorem AJ0 {N:Nat} {a b c d e f g h i j k:Ob} (h1 : [a,b,c,d,e,f,g,h,i,j].all (Aq N)=true) (h2:Aq N k=true) : [a,b,c,d,e,f,g,h,i,j,k].all (Aq N)=true:=by simp only[aI,aM,aw,ar] at h1 ⊢; simp[h1,h2]
theorem EJ (w:DWorld) (hf:AU w):Ctr prog 31 [.agg w.c] [.agg w.o]:=by
 rw[AZ,Jm,GU] at hf;obtain⟨f1,f2,f3,f4,f5,f6,f7,f8⟩:=hf;refine CM call31 func31 ntmps31 results31 fun hw=>?_;have hlen:=f7.1;have hlen2:=f8.1;have f5':w.x.length<=2147483648:=AOl;simp only[go_sem];refine ACc 18 3 AQm ?_;simp only[go_sem];refine ABg _ (KW w.c0.cols f1) ?_;simp only[go_sem];refine AAR ?_;simp only[go_sem];refine CZ (UQ w.d f2) ?_;simp only[go_sem];refine ABg _ (OI w.b f3) ?_;simp only[go_sem];refine ABg _ (KW w.m f4) ?_;simp only[go_sem];refine AAR ?_;simp only[go_sem,lX,aa,f5',au];refine ABg _ (KW w.p f6) ?_;simp only[go_sem];refine AAv [8,9,10,11,12,13,14,15,16,17,18,19,20,21,22,23,24,25,26,27,28,29,30,31,32,33,34,35,36,37,38,39,40,41,42,43,44,45,46,47] (A:=Nat×List DTask) (fun x=>[(50,.c (.v (.int .i64 (x.1)))),(3,.lp 2 0 0)]) (fun x=>[⟨44,14,[w.c],true,true⟩,⟨44,14,[AA_],true,true⟩,⟨44,14,[wRow w (.ref 9) (.v (.slice none 0 0))],true,true⟩,⟨3,1,w.c0.cols.map intC,true,true⟩,⟨139,5,w.d.l.map DRef.c,true,true⟩,⟨145,5,w.b.map DBuf.o,true,true⟩,⟨3,1,w.m.map intC,true,true⟩,⟨152,3,w.x.map DDead.c,true,true⟩,⟨3,1,w.p.map intC,true,true⟩,⟨120,25,x.2.map DTask.o,true,true⟩]) (fun x=>x.1<=w.tasks.length/\x.2.length<=x.1/\x.2++w.tasks.drop x.1=w.tasks) (fun x=>w.tasks.length-x.1) (0,[]) (Head.trans (Head.nilR 3 12 120 25 ⟨44,14,[AGl w],true,true⟩ (AGl w) rfl rfl rfl) (AAS [(0,false),(1,true),(3,true),(2,false),(4,false),(5,true),(6,false),(8,false),(9,false),(10,false)] ⟨rfl,rfl,rfl,rfl,rfl,CX _,AY DRef.pure,D5 (A7 _),CX _,AY DDead.pure,CX _,rfl,trivial⟩ (by show (⟨78,_,[_,_,_,_,_,⟨145,5,(w.b.map DBuf.o).map (fun x=>x.map (QT [(0,false),(1,true),(3,true),(2,false),(4,false),(5,true),(6,false),(8,false),(9,false),(10,false)])),true,true⟩,_,_,_,_]⟩:MS)=_; rw[Df (A7 w.b)]; rfl))) ⟨aq _,aG _,rfl⟩ ?_
 .rintro⟨k,out⟩ ⟨hk,hol,hb⟩;dsimp only at hk hol hb;refine AOe (fun h=>?_) fun h=>?_
  .have hk':k<w.tasks.length:=by simpa using h
   rw[aB hk'] at hb;have hr:=f7.2 _ (an hk');have hol2:out.length+1<=2147483648:=AOl;simp only[go_sem,aa,AA _ hk',hk',au];refine AAR ?_;simp only[go_sem,AA _ hk',hk'];refine CZ (iJ w.tasks[k] hr) ?_;simp only[go_sem,aI,aM,AA _ hk',hk',hol2,nrT,ax,au,wrap_i64 (n:=(k:Int)+1) AOl AOl]
   refine⟨(k+1,out ++ [w.tasks[k]]),ABi [(0,false),(1,true),(2,true),(3,false),(4,false),(5,true),(6,false),(7,false),(8,false),(17,true),(11,false),(12,true),(13,false),(14,false),(15,true)] 10 9 ⟨rfl,rfl,rfl,rfl,rfl,CX _,AY DRef.pure,D5 (A7 _),CX _,AY DDead.pure,CX _,Ic DTask.o_nr _ out rfl,AY DVal.pure,D5 (BZ _),CX _,AY DRef.pure,D5 (Aj _),trivial⟩ ⟨out.length,out.map DTask.o ++ [DTask.o w.tasks[k]],_,DTask.o w.tasks[k],_,⟨dD 9,rfl,Ib DTask.o_nr _ out _ _,AOm,rfl⟩,
    (by rw[DTask.o_eq,DQuery.o_eq,DPred.o_eq]; exact⟨rfl,rfl,rfl,rfl,rfl,rfl,rfl,rfl,rfl,rfl,Ce _,AO4,rfl,rfl,rfl,rfl,rfl,rfl,rfl,rfl,rfl,rfl,rfl,rfl,rfl,rfl,rfl,rfl,rfl,rfl,Df (BZ _),rfl,BZ _,AO4,rfl,rfl,rfl,rfl,rfl,rfl,AQ _,AO4,rfl,rfl,rfl,rfl,rfl,rfl,rfl,rfl,BC _,AO4,rfl,rfl,rfl,rfl,rfl,rfl,rfl,rfl,rfl,rfl,rfl,rfl,rfl,rfl,Df (Aj _),rfl,Aj _,AO4,fun l hl=>AO0⟩),⟨rfl, ?tr⟩, ?eq⟩,⟨hk',AOn,(ba _ _ _).trans hb⟩,AOp⟩
   case tr =>
    unfold BJ
    rw[BM]
    show ([_,_,_,_,_,⟨145,5,(w.b.map DBuf.o).map (fun x=>x.map (QT [(0,false),(1,true),(2,true),(3,false),(4,false),(5,true),(6,false),(7,false),(8,false),(17,true),(11,false),(12,true),(13,false),(14,false),(15,true)])),true,true⟩,_,_,_,_]:List Ob).all (Aq 10)=true
    exact AMu
   case eq =>
    unfold BJ
    rw[BM,bl]
    show (⟨78,_,[_,_,_,_,_,⟨145,5,(w.b.map DBuf.o).map (fun x=>x.map (QT [(0,false),(1,true),(2,true),(3,false),(4,false),(5,true),(6,false),(7,false),(8,false),(17,true),(11,false),(12,true),(13,false),(14,false),(15,true)])),true,true⟩,_,_,_,_]⟩:MS)=_; rw[Df (A7 w.b)]; rfl
  .have hk':k=w.tasks.length:=by simp at h; omega
   subst hk';rw[aK] at hb;have:out=w.tasks:=APa;rw[this];simp only[go_sem];refine AAv [] (A:=Nat×List DDeed) (fun x=>[(65,.c (.v (.int .i64 (x.1))))]) (fun x=>[⟨44,14,[w.c],true,true⟩,⟨44,14,[AA_],true,true⟩,⟨44,14,[wRow w (.ref 9) (.ref 10)],true,true⟩,⟨3,1,w.c0.cols.map intC,true,true⟩,⟨139,5,w.d.l.map DRef.c,true,true⟩,⟨145,5,w.b.map DBuf.o,true,true⟩,⟨3,1,w.m.map intC,true,true⟩,⟨152,3,w.x.map DDead.c,true,true⟩,⟨3,1,w.p.map intC,true,true⟩,⟨120,25,w.tasks.map DTask.o,true,true⟩,⟨135,25,x.2.map DDeed.o,true,true⟩]) (fun x=>x.1<=w.deeds.length/\x.2.length<=x.1/\x.2++w.deeds.drop x.1=w.deeds) (fun x=>w.deeds.length-x.1) (0,[]) (Head.trans (Head.nilR 2 13 135 25 ⟨44,14,[wRow w (.ref 9) (.v (.slice none 0 0))],true,true⟩ (wRow w (.ref 9) (.v (.slice none 0 0))) rfl rfl rfl) (AAS [(0,false),(1,true),(2,true),(3,false),(4,false),(5,true),(6,false),(7,false),(8,false),(9,true),(10,false)] ⟨rfl,rfl,rfl,rfl,rfl,CX _,AY DRef.pure,D5 (A7 _),CX _,AY DDead.pure,CX _,D5 (Ho _),rfl,trivial⟩ (by show (⟨78,_,[_,_,_,_,_,⟨145,5,(w.b.map DBuf.o).map (fun x=>x.map (QT [(0,false),(1,true),(2,true),(3,false),(4,false),(5,true),(6,false),(7,false),(8,false),(9,true),(10,false)])),true,true⟩,_,_,_,⟨120,25,(w.tasks.map DTask.o).map (fun x=>x.map (QT [(0,false),(1,true),(2,true),(3,false),(4,false),(5,true),(6,false),(7,false),(8,false),(9,true),(10,false)])),true,true⟩,_]⟩:MS)=_; rw[Df (A7 w.b),Df (Ho w.tasks)]; rfl))) ⟨aq _,aG _,rfl⟩ ?_;clear hb hol hk h this out;rintro⟨k,out⟩ ⟨hk,hol,hb⟩;dsimp only at hk hol hb;refine AOe (fun h=>?_) fun h=>?_
   .have hk':k<w.deeds.length:=by simpa using h
    rw[aB hk'] at hb;have hr:=f8.2 _ (an hk');have hol2:out.length+1<=2147483648:=AOl;simp only[go_sem,aa,AA _ hk',hk',au];refine AAR ?_;simp only[go_sem,AA _ hk',hk'];refine CZ (iK w.deeds[k] hr) ?_;simp only[go_sem,aI,aM,AA _ hk',hk',hol2,nrD,ax,au,wrap_i64 (n:=(k:Int)+1) AOl AOl]
    refine⟨(k+1,out ++ [w.deeds[k]]),ABi [(0,false),(1,true),(2,true),(3,false),(4,false),(5,true),(6,false),(7,false),(8,false),(9,true),(17,true),(12,false),(13,true),(14,false),(15,true)] 11 10 ⟨rfl,rfl,rfl,rfl,rfl,CX _,AY DRef.pure,D5 (A7 _),CX _,AY DDead.pure,CX _,D5 (Ho _),Ic DDeed.o_nr _ out rfl,AY DVal.pure,D5 (BZ _),CX _,D5 (Aj _),trivial⟩ ⟨out.length,out.map DDeed.o ++ [DDeed.o w.deeds[k]],_,DDeed.o w.deeds[k],_,⟨dD 10,rfl,Ib DDeed.o_nr _ out _ _,AOm,rfl⟩,
     (by rw[DDeed.o_eq,DQuery.o_eq,DResult.o_eq,DPred.o_eq]; exact⟨rfl,rfl,rfl,rfl,rfl,rfl,rfl,rfl,Ce _,AO4,rfl,rfl,rfl,rfl,rfl,rfl,rfl,rfl,rfl,rfl,rfl,rfl,rfl,rfl,rfl,rfl,rfl,rfl,Df (BZ _),rfl,BZ _,AO4,rfl,rfl,rfl,rfl,rfl,rfl,AQ _,AO4,rfl,rfl,Df (Aj _),rfl,Aj _,AO4,rfl,rfl,rfl,rfl,rfl,rfl,rfl,rfl,rfl,rfl,rfl,rfl,rfl,rfl,rfl,rfl,rfl,rfl,rfl,rfl,fun l hl=>AO0⟩),⟨rfl, ?tr⟩, ?eq⟩,⟨hk',AOn,(ba _ _ _).trans hb⟩,AOp⟩
    case tr =>
     unfold BJ
     rw[BM]
     show ([_,_,_,_,_,⟨145,5,(w.b.map DBuf.o).map (fun x=>x.map (QT [(0,false),(1,true),(2,true),(3,false),(4,false),(5,true),(6,false),(7,false),(8,false),(9,true),(17,true),(12,false),(13,true),(14,false),(15,true)])),true,true⟩,_,_,_,⟨120,25,(w.tasks.map DTask.o).map (fun x=>x.map (QT [(0,false),(1,true),(2,true),(3,false),(4,false),(5,true),(6,false),(7,false),(8,false),(9,true),(17,true),(12,false),(13,true),(14,false),(15,true)])),true,true⟩,_]:List Ob).all (Aq 11)=true
     rw[Df (A7 w.b),Df (Ho w.tasks)]
     exact AJ0 (AET rfl rfl rfl (AX (AQ _)) (AX (BC _)) (AX (A7 _)) (AX (AQ _)) (AX (Ci _)) (AX (AQ _)) (AX (Ho _))) (AX (Cb _))
    case eq =>
     unfold BJ
     rw[BM,bl]
     show (⟨78,_,[_,_,_,_,_,⟨145,5,(w.b.map DBuf.o).map (fun x=>x.map (QT [(0,false),(1,true),(2,true),(3,false),(4,false),(5,true),(6,false),(7,false),(8,false),(9,true),(17,true),(12,false),(13,true),(14,false),(15,true)])),true,true⟩,_,_,_,⟨120,25,(w.tasks.map DTask.o).map (fun x=>x.map (QT [(0,false),(1,true),(2,true),(3,false),(4,false),(5,true),(6,false),(7,false),(8,false),(9,true),(17,true),(12,false),(13,true),(14,false),(15,true)])),true,true⟩,_]⟩:MS)=_; rw[Df (A7 w.b),Df (Ho w.tasks)]; rfl
   .have hk':k=w.deeds.length:=by simp at h; omega
    subst hk';rw[aK] at hb;have:out=w.deeds:=APa;rw[this];simp only[go_sem,Cb,Ho,A7,AQ,BC,Ci];try exact AIG
