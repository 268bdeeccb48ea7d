/- A part. -/
import Derived.Test.YtgkmefoghbjfnaaGreatSq
import Derived.Test.YtgkmefoghbjfnaaGreatSv
import Derived.Test.YtgkmefoghbjfnaaGreatFa
set_option linter.unusedSimpArgs false
set_option linter.unusedVariables false
set_option maxHeartbeats 4000000
set_option maxRecDepth 10000
open Go.Proofs.Tryz
namespace Go.Proofs.YtgkmefoghbjfnaaGreat
open Go.Vm
def EW (l:List DDeed) (n:Int):Int:=((l[n.toNat]?).map DDeed.lin).getD 0
theorem Iz {l:List DDeed} {k:Nat} (h:k<l.length):EW l (k:Int)=l[k].lin:=by
 simp[EW,h]
def H6 (l:List DDeed) (k:Nat):List Int:=((List.range k).filter fun(i:Nat)=>decide (EW l (i:Int)≠ -1)).map fun(i:Nat)=>(i:Int)
theorem Nh (l:List DDeed) (k:Nat):H6 l (k+1)=H6 l k++(if EW l (k:Int) = -1 then [] else [(k:Int)]):=by
 unfold H6
 rw[List.range_succ,List.filter_append,Yk]
 by_cases h:EW l (k:Int) = -1<;>simp[h]
theorem Kv {l:List DDeed} {k:Nat} {x:Int} (h:x∈H6 l k):0≤x∧x<(k:Int):=by
 unfold H6 at h
 obtain⟨i,hi,rfl⟩:=cO.1 h
 have:=su.1 (List.mem_filter.1 hi).1
 omega
theorem Uo (l:List DDeed) (k:Nat):(H6 l k).length≤k:=by
 unfold H6
 rw[ae]
 exact ZW (sS _ _) (by simp)
theorem iR (l:List DDeed):∀ k,(H6 l k).Pairwise (· < ·)
 | 0=>List.Pairwise.nil
 | k+1=>by
  rw[Nh,og]
  refine⟨iR l k, ?_,fun x hx y hy=>?_⟩
  ·split<;>simp
  ·have:=Kv hx
   split at hy
   ·cases hy
   ·simp only[oq] at hy; omega
def Ordd (l:List DDeed) (k:Nat) (out:List Int):Prop:=out.Perm (H6 l k)∧out.Pairwise (kl (EW l))
open Classical in
noncomputable def Gu (l:List DDeed):List Int:=if h:∃ out,Ordd l l.length out then h.choose else []
theorem Ordd.eq {l:List DDeed} {out:List Int} (h:Ordd l l.length out):out=Gu l:=by
 have hx:∃ out,Ordd l l.length out:=⟨out,h⟩
 have hc:=hx.choose_spec
 unfold Gu
 rw[dif_pos hx]
 exact ZU h.2 hc.2 (h.1.trans hc.1.symm)
theorem Ordd.mem {l:List DDeed} {k:Nat} {out:List Int} (h:Ordd l k out) {x:Int} (hx:x∈out):0≤x∧x<(k:Int):=Kv (h.1.mem_iff.1 hx)
theorem Ordd.len {l:List DDeed} {k:Nat} {out:List Int} (h:Ordd l k out):out.length≤k:=by rw[h.1.length_eq]; exact Uo l k
theorem Ordd.skip {l:List DDeed} {k:Nat} {out:List Int} (h:Ordd l k out) (hk:EW l (k:Int) = -1):Ordd l (k+1) out:=by
 unfold Ordd at *
 rw[Nh,ED hk,bU]
 exact h
theorem Ordd.ins {l:List DDeed} {k j:Nat} {out:List Int} (h:Ordd l k out) (hk:¬ EW l (k:Int) = -1) (hj:j≤out.length) (h1:j=0∨EW l (at0 out (j-1))≤EW l (k:Int)) (h2:∀ i,j≤i→i<out.length→EW l (k:Int)<EW l (at0 out i)):Ordd l (k+1) (out.take j++(k:Int)::out.drop j):=by
 have q:=jJ (key:=EW l) (out:=out) (i:=(k:Int)) (k:=j) h.2 (fun x hx=>(h.mem hx).2) hj h1 h2
 refine⟨?_,q.1⟩
 rw[Nh,Eh hk]
 exact q.2.trans (qh _ h.1)
theorem oV {s:MS} (ls:List Nat) {st':List Ob} (h:Px s.st ls=some st'):Head s ⟨s.n,s.env,st'⟩:=⟨rfl,fun w0 St0 St β a w hc=>by
 obtain⟨St',h'⟩:=SG ls s.st st' St hc h
 exact⟨St',β,h'⟩⟩
theorem ZM {s:MS} (l:Nat) {ob:Ob} (h:BV s.st l=some ob) (hp:E5 ob.xs=true):Head s ⟨s.n,s.env,Jf s.st l⟩:=oV [l] (by simp only[Px,h,hp,bC])
theorem Jn (l:List Int):HY 1 (l.map intC)=true:=aA.2 fun r hr=>by
 obtain⟨x,_,rfl⟩:=cO.1 hr
 rfl
theorem Q8 (N ty:Nat) (d:List Int):BQ N ⟨ty,1,d.map intC,false,true⟩=true:=by
 simp only[BQ,AP intC.pure,TZ]
@[go_sem] theorem QG (l:List Int):E5 (l.map intC)=true:=AP intC.pure
theorem ZN (l:List Int):((l.map intC).all fun r=>r.length==1)=true:=aA.2 fun r hr=>by
 obtain⟨x,_,rfl⟩:=cO.1 hr
 rfl
theorem Ur (a b:List Int) (v:Int):(a++v::b).map intC=a.map intC ++ [[.v (.int .i64 v)]]++b.map intC:=by simp; rfl
theorem QH (a b:List Int) (v:Int):E5 (a.map intC ++ [[.v (.int .i64 v)]]++b.map intC)=true:=by rw[← Ur]; exact AP intC.pure
theorem WZ (l:List DDeed) (hl:l.length≤1048576):Ctr prog 55 [.c (.sl (l.map DDeed.c))] [.val (.c (.sl ((Gu l).map intC)))]:=by
 refine CM call55 func55 ntmps55 results55 fun hw=>?_
 simp only[go_sem]
 refine LoopH.mk [6] (A:=Nat×List Int) (fun x=>[(4,.c (.v (.int .i64 ((x.1:Int))))),(3,.c (.ref 0))]) (fun x=>[⟨3,1,x.2.map intC,false,true⟩]) (fun x=>x.1≤l.length∧Ordd l x.1 x.2) (fun x=>l.length-x.1) (0,[]) (Head.trans (oV [0] rfl) (Head.sel [(0,false)] ⟨rfl,rfl,rfl,trivial⟩ rfl)) ⟨aJ _,qo _,List.Pairwise.nil⟩ ?_
 rintro⟨k,out⟩ ⟨hk,hO⟩
 dsimp only at hk hO
 simp only[go_sem,ae]
 refine cndC.mk (fun h=>?_) (fun h=>?_)
 ·have hk':k<l.length:=by simpa using h
  have hg:=Iz hk'
  simp only[go_sem,ae,AA _ hk',hk']
  refine cndC.mk (fun h=>?_) (fun h=>?_)
  ·have hL:EW l (k:Int) = -1:=by rw[hg]; simpa using h
   simp only[go_sem,wrap_i64 (n:=(k:Int)+1) (by omega) (by omega)]
   exact⟨(k+1,out),Head.sel [(0,false)] ⟨rfl,rfl,AP intC.pure,trivial⟩ rfl,⟨hk',hO.skip hL⟩,by simp only; omega⟩
  ·have hL:¬ EW l (k:Int) = -1:=by rw[hg]; simpa using h
   have hol:=hO.len
   simp only[go_sem,ae]
   refine LoopU.mk 1 (A:=Nat) (fun x=>[(5,.c (.v (.int .i64 ((x:Int)))))]) (fun x=>[⟨3,1,out.map intC,false,true⟩]) (fun j=>j≤out.length∧∀ i,j≤i→i<out.length→EW l (k:Int)<EW l (at0 out i)) (fun j=>j) out.length ⟨⟨rfl,by simp only[bf,bG,aS,aZ,aH,Q8]⟩,rfl,aQ _,fun i h1 h2=>by omega⟩ ?_
   rintro j ⟨hj,hI⟩
   simp only[go_sem]
   have hfin:(j=0∨EW l (at0 out (j-1))≤EW l (k:Int))→Ordd l (k+1) (out.take j++(k:Int)::out.drop j):=fun h=>hO.ins hL hj h hI
   rcases g1:decide ((j:Int)>0) with _ | _
   ·have hj0:j=0:=by simp at g1; omega
    have hO2:=hfin (.inl hj0)
    clear hfin hI
    refine DrawK.mk ?_
    simp only[go_sem,g1]
    have hjm:min j out.length=j:=by omega
    have q1:j≤2147483648:=by omega
    have q2:j+1≤2147483648:=by omega
    have q3:j+1+(out.length-j)≤2147483648:=by omega
    have htk:(out.drop j).take (out.length-j)=out.drop j:=vG (by simp)
    refine DrawK.split 4 6 [0,1,2,3,4,5,6,7,8,9,10,11,12] [0,5,6,1,2,3,4,7,8,9,10,11,12] rfl (by kernel_rfl) (by kernel_rfl) ?_ ?_
    rotate_left
    simp only[go_sem]
    refine DrawK.split 0 2 [0,1,2,3,4,5,6,7,8,9,10,11,12] [1,2,0,3,4,5,6,7,8,9,10,11,12] rfl (by kernel_rfl) (by kernel_rfl) ?_ ?_
    all_goals
     simp only[go_sem]
     refine DrawK.mkE ?_
     simp only[go_sem,ay,aS,aZ,aO,bQ,Vf,Dj,ZN,Jn,hj,aQ,aJ,mi,hjm,q1,q2,q3,← List.map_take,← List.map_drop,ae,ZV,mZ,ou,bP,htk,List.take_length,wrap_i64 (n:=(k:Int)+1) (by omega) (by omega)]
     exact⟨(k+1,_),Head.trans (ZM 5 rfl (QH _ _ _)) (Head.sel [(5,false)] ⟨rfl,rfl,QH _ _ _,trivial⟩ (by simp only[Ur]; rfl)),⟨hk',hO2⟩,by simp only; omega⟩
   ·have hj0:0<j:=by simp at g1; omega
    have lj:j-1<out.length:=by omega
    obtain⟨n,hn⟩:∃ n:Nat,at0 out (j-1)=(n:Int):=⟨(at0 out (j-1)).toNat,by have:=hO.mem (at_mem lj); omega⟩
    have hnl:n<l.length:=by have:=hO.mem (at_mem lj); omega
    have gn:=Iz hnl
    have e1:=LM (x:=j) (y:=1) (by omega) (by omega)
    simp only[mf] at e1
    have t1:=EZ lj
    rw[hn] at t1
    refine DrawK.mk ?_
    simp only[go_sem,g1,e1,t1,lj,hnl,hk',ae,AA _ hnl,AA _ hk']
    refine cndC.mk (fun h=>?_) (fun h=>?_)
    ·have hlt:l[k].lin<l[n].lin:=by simpa using h
     simp only[go_sem,e1]
     refine⟨j-1,⟨rfl,by simp only[bf,bG,aS,aZ,aH,Q8]⟩,rfl,⟨by omega,fun i h1 h2=>?_⟩,by omega⟩
     by_cases e:i=j-1
     ·rw[e,hn,hg,gn]; exact hlt
     ·exact hI i (by omega) h2
    ·have hlt:¬ l[k].lin<l[n].lin:=by simpa using h
     have hO2:=hfin (.inr (by rw[hn,hg,gn]; omega))
     clear hfin hI
     simp only[go_sem]
     have hjm:min j out.length=j:=by omega
     have q1:j≤2147483648:=by omega
     have q2:j+1≤2147483648:=by omega
     have q3:j+1+(out.length-j)≤2147483648:=by omega
     have htk:(out.drop j).take (out.length-j)=out.drop j:=vG (by simp)
     refine DrawK.split 4 6 [0,1,2,3,4,5,6,7,8,9,10,11,12] [0,5,6,1,2,3,4,7,8,9,10,11,12] rfl (by kernel_rfl) (by kernel_rfl) ?_ ?_
     rotate_left
     simp only[go_sem]
     refine DrawK.split 0 2 [0,1,2,3,4,5,6,7,8,9,10,11,12] [1,2,0,3,4,5,6,7,8,9,10,11,12] rfl (by kernel_rfl) (by kernel_rfl) ?_ ?_
     all_goals
      simp only[go_sem]
      refine DrawK.mkE ?_
      simp only[go_sem,ay,aS,aZ,aO,bQ,Vf,Dj,ZN,Jn,hj,aQ,aJ,mi,hjm,q1,q2,q3,← List.map_take,← List.map_drop,ae,ZV,mZ,ou,bP,htk,List.take_length,wrap_i64 (n:=(k:Int)+1) (by omega) (by omega)]
      exact⟨(k+1,_),Head.trans (ZM 5 rfl (QH _ _ _)) (Head.sel [(5,false)] ⟨rfl,rfl,QH _ _ _,trivial⟩ (by simp only[Ur]; rfl)),⟨hk',hO2⟩,by simp only; omega⟩
 ·have hk':k=l.length:=by simp at h; omega
  subst hk'
  rw[← hO.eq]
  simp only[go_sem,C9]
  try simp
theorem P6 (key:Int→Int) (d0:List Int) (hl:d0.length≤1048576) (hs:d0.Pairwise (· < ·)) (g:FuncId) (xs:List (List Cl)) (hg:CmpOk prog g xs key d0) :
  MCtr prog 62 false [.ow 3 1 (d0.map intC)] [.clo g xs] (fun cl' rs=>∃ d':List Int,cl' = [.ow 3 1 (d'.map intC)]∧rs = []∧d'.Perm d0∧d'.Pairwise (kl key)):=by
 refine MCtr.mk (fn:=f62) call62 func62 rfl mixed ntmps62 results62 (by kernel_rfl) rfl (.inr rfl) fun us hw0 hw=>?_
 simp only[go_sem,ae]
 refine MutK.mk false (zs:=[.ref 0]) (XN key d0 hl hs g xs hg) rfl ⟨rfl,rfl,rfl,rfl,C9 _,by simp,trivial⟩ rfl (.inr rfl) fun cl' rs hM=>?_
 obtain⟨d',rfl,rfl,h1,h2⟩:=hM
 refine⟨⟨rfl,⟨rfl,rfl⟩,trivial⟩, ?_⟩
 simp only[go_sem]
 exact⟨[.ref 0],[.ow 3 1 _],[],rfl,.inr rfl,⟨rfl,rfl,rfl,rfl,C9 _,by simp,trivial⟩,by simp only[CQ,D5,aH]; exact EN fun x hx=>by obtain⟨y,_,rfl⟩:=cO.1 hx; rfl,rfl,rfl,_,rfl,rfl,h1,h2⟩
theorem dN (l:List DDeed):CmpOk prog 63 [[.sl (l.map DDeed.c)]] (EW l) (H6 l l.length):=by
 intro x hx y hy
 obtain⟨i,hi⟩:∃ i:Nat,x=(i:Int):=⟨x.toNat,by have:=Kv hx; omega⟩
 obtain⟨k,hk⟩:∃ k:Nat,y=(k:Int):=⟨y.toNat,by have:=Kv hy; omega⟩
 subst hi; subst hk
 have h1:i<l.length:=by have:=Kv hx; omega
 have h2:k<l.length:=by have:=Kv hy; omega
 rw[Iz h1,Iz h2]
 exact XL l i k h1 h2
theorem We (l:List DDeed) (hl:l.length≤1048576):Ctr prog 29 [.c (.sl (l.map DDeed.c))] [.own 3 1 ((Gu l).map intC) true]:=by
 refine CM call29 func29 ntmps29 results29 fun hw=>?_
 simp only[go_sem,ae]
 refine LoopH.mk [6] (A:=Nat) (fun x=>[(9,.c (.v (.int .i64 ((x:Int))))),(3,.c (.ref 1))]) (fun x=>[⟨47,1,[[.sl (l.map DDeed.c)]],true,true⟩,⟨3,1,(H6 l x).map intC,true,true⟩]) (fun x=>x≤l.length) (fun x=>l.length-x) 0 (Head.sel [(0,false),(1,false)] ⟨rfl,rfl,rfl,rfl,trivial⟩ rfl) (aJ _) ?_
 intro k hk
 simp only[go_sem,ae]
 refine cndC.mk (fun h=>?_) (fun h=>?_)
 ·have hk':k<l.length:=by simpa using h
  have hg:=Iz hk'
  have hil:=Uo l k
  have hsu:=Nh l k
  have q1:(H6 l k).length+1≤2147483648:=by omega
  simp only[go_sem,ae,AA _ hk',hk']
  refine cndC.mk (fun h=>?_) (fun h=>?_)
  ·have hL:¬ EW l (k:Int) = -1:=by rw[hg]; simpa using h
   rw[Eh hL] at hsu
   simp only[go_sem,ay,aS,aZ,Dj,ae,q1,wrap_i64 (n:=(k:Int)+1) (by omega) (by omega)]
   have e:(H6 l k).map intC ++ [[Cl.v (.int .i64 (k:Int))]]=(H6 l (k+1)).map intC:=by rw[hsu,Yk]; rfl
   rw[e]
   exact⟨k+1,Head.sel [(0,false),(4,false)] ⟨rfl,rfl,rfl,QG _,trivial⟩ rfl,hk',by omega⟩
  ·have hL:EW l (k:Int) = -1:=by rw[hg]; simpa using h
   rw[ED hL,bU] at hsu
   simp only[go_sem,wrap_i64 (n:=(k:Int)+1) (by omega) (by omega)]
   exact⟨k+1,Head.sel [(0,false),(1,false)] ⟨rfl,rfl,rfl,QG _,trivial⟩ (by rw[hsu]; rfl),hk',by omega⟩
 ·have hk':k=l.length:=by simp at h; omega
  subst hk'
  have hp:E5 [[Cl.sl (l.map DDeed.c)]]=true:=rfl
  simp only[go_sem,C9,List.isEmpty_nil,hp]
  refine MutK.mk false (zs:=[.ref 1]) (P6 (EW l) (H6 l l.length) (ZW (Uo l _) hl) (iR l _) _ _ (dN l)) rfl ⟨rfl,rfl,rfl,rfl,C9 _,by simp,trivial⟩ rfl (.inr rfl) fun cl' rs hM=>?_
  obtain⟨d',rfl,rfl,h1,h2⟩:=hM
  refine⟨⟨rfl,⟨rfl,rfl⟩,trivial⟩, ?_⟩
  have hO:Ordd l l.length d':=⟨h1,h2⟩
  rw[← hO.eq]
  simp only[go_sem,C9]
  try simp
def Ce (x a b:Int):Bool:=decide (a≤x)&&decide (x≤b)
theorem BB (x a b:Int):Ctr prog 127 [.c (.v (.int .i64 x)),.c (.v (.int .i64 a)),.c (.v (.int .i64 b))] [.val (.c (.v (.bool (Ce x a b))))]:=by
 refine CM call127 func127 ntmps127 results127 fun _=>?_
 simp only[go_sem]
 refine gO.mk (fun h=>?_) (fun h=>?_)<;>simp only[go_sem,h]<;>simp at h<;>simp[Ce]<;>omega
theorem Aj (x a b:Int):Ctr prog 145 [.c (.v (.int .i64 x)),.c (.v (.int .i64 a)),.c (.v (.int .i64 b))] [.val (.c (.v (.bool (Ce x a b))))]:=by
 refine CM call145 func145 ntmps145 results145 fun _=>?_
 simp only[go_sem]
 refine gO.mk (fun h=>?_) (fun h=>?_)<;>simp only[go_sem,h]<;>simp at h<;>simp[Ce]<;>omega
def Q9 (n:Int):Bool:=Ce n (-1000000000) 1000000000
theorem Us (x:Int):Ctr prog 177 [.c (.v (.int .i64 x))] [.val (.c (.v (.bool (Q9 x))))]:=by
 refine CM call177 func177 ntmps177 results177 fun _=>?_
 simp only[go_sem]
 refine CallK.mk _ (BB _ _ _) fun _=>?_
 simp only[go_sem,Q9]
theorem YW (x:Int):Ctr prog 170 [.c (.v (.int .i64 x))] [.val (.c (.v (.bool (Q9 x))))]:=by
 refine CM call170 func170 ntmps170 results170 fun _=>?_
 simp only[go_sem]
 refine CallK.mk _ (Aj _ _ _) fun _=>?_
 simp only[go_sem,Q9]
def P7 (c:UInt8):Bool:=Ce c.toNat 97 122||Ce c.toNat 48 57
def Nj (s:ByteArray):Bool:=decide (∀ i (h:i<s.size),P7 s[i]=true)
def EX (d:DVal):Bool:=if d.ty=1 then Q9 d.n&&(d.s.toList==({ data:=#[] }:ByteArray).toList) else(d.ty==2)&&(d.n==0)&&decide (d.s.size≤6)&&Nj d.s
theorem IX (d:DVal):Ctr prog 158 [.agg d.c] [.val (.c (.v (.bool (EX d))))]:=by
 refine CM call158 func158 ntmps158 results158 fun hw=>?_
 have hs:d.s.size≤9223372036854775807:=Y8 hw.1.2.2.1
 simp only[go_sem]
 refine cndC.mk (fun h=>?_) (fun h=>?_)
 ·have h1:d.ty=1:=by simpa using h
  simp only[go_sem]
  refine CallK.mk _ (Us _) fun _=>?_
  simp only[go_sem]
  refine gO.mk (fun h=>?_) (fun h=>?_)<;>simp only[go_sem,h]<;>simp_all [EX]
 ·have h1:¬ d.ty=1:=by simpa using h
  simp only[go_sem]
  refine LoopK.mk 1 [1,3] (A:=Nat) (fun k=>⟨56,[(1,.lp 0 0 0),(3,.c (.v (.int .i64 k)))],[⟨75,3,[d.c],true,true⟩]⟩) (fun k=>k≤d.s.size∧k≤7∧∀ i (h:i<d.s.size),i<k→P7 d.s[i]=true) (fun k=>d.s.size-k) 0 ⟨⟨rfl,rfl⟩,rfl,aJ _,by omega,fun i _ hi=>by omega⟩ ?_
  rintro k ⟨hk,hk7,hok⟩
  simp only[go_sem]
  have hW (c:UInt8):IntKind.i64.wrap (c.toNat:Int)=c.toNat:=wrap_i64 (by omega) (by have:=c.toNat_lt; omega)
  have hfin:k=d.s.size∨(¬ k≤6)→((d.ty==2)&&(d.n==0)&&decide ((d.s.size:Int)≤6))=EX d:=by
   intro hor
   simp only[EX,Eh h1]
   by_cases h6:d.s.size≤6
   ·have ht:Nj d.s=true:=by
     simp only[Nj,dm]
     intro i hi
     exact hok i hi (by omega)
    have h6':(d.s.size:Int)≤6:=by omega
    simp[ht,h6,h6']
   ·have h6':¬ (d.s.size:Int)≤6:=by omega
    simp[h6,h6']
  refine gO.mk (fun h=>?_) (fun h=>?_)
  ·have hk':k<d.s.size:=by simpa using h
   have hb:d.s[k]?=some d.s[k]:=getElem?_pos d.s k hk'
   simp only[go_sem,h,hk']
   refine cndC.mk (fun h6=>?_) (fun h6=>?_)
   ·have h6':k≤6:=by simp at h6; omega
    have hbad:P7 d.s[k]=false→false=EX d:=by
     intro hc
     have ht:Nj d.s=false:=by
      simp only[Nj,vF]
      intro hall
      rw[hall k hk'] at hc
      cases hc
     simp[EX,Eh h1,ht]
    simp only[go_sem,hb,hW]
    refine CallK.mk _ (BB _ _ _) fun _=>?_
    simp only[go_sem]
    refine gO.mk (fun ha=>?_) (fun ha=>?_)
    ·simp only[go_sem,hb,hW,ha]
     refine CallK.mk _ (BB _ _ _) fun _=>?_
     simp only[go_sem,hb,hW,ha]
     refine cndC.mk (fun hc=>?_) (fun hc=>?_)
     ·simp only[go_sem]
      rw[hbad (by simp[P7]; exact⟨by simpa using ha,by simpa using hc⟩)]
     ·simp only[go_sem,wrap_i64 (n:=(k:Int)+1) (by omega) (by omega)]
      refine⟨k+1,⟨rfl,rfl⟩,rfl,⟨by omega,by omega,fun i hi hik=>?_⟩,by omega⟩
      by_cases e:i=k
      ·subst e; simp only[P7]; simp at hc; simp[hc]
      ·exact hok i hi (by omega)
    ·simp only[go_sem,hb,hW,ha,wrap_i64 (n:=(k:Int)+1) (by omega) (by omega)]
     refine⟨k+1,⟨rfl,rfl⟩,rfl,⟨by omega,by omega,fun i hi hik=>?_⟩,by omega⟩
     by_cases e:i=k
     ·subst e; simp only[P7]; simp at ha; simp[ha]
     ·exact hok i hi (by omega)
   ·have hfin':=hfin (.inr (by simp at h6; omega))
    simp only[go_sem]
    refine gO.mk (fun e1=>?_) (fun e1=>?_)
    ·simp only[go_sem,e1]
     refine gO.mk (fun e2=>?_) (fun e2=>?_)<;>simp only[go_sem,e1,e2]<;>rw[← hfin',e1,e2]<;>simp
    ·simp only[go_sem,e1]
     rw[← hfin',e1]; rfl
  ·have hk':k=d.s.size:=by simp at h; omega
   have hfin':=hfin (.inl hk')
   simp only[go_sem,h]
   refine gO.mk (fun e1=>?_) (fun e1=>?_)
   ·simp only[go_sem,e1]
    refine gO.mk (fun e2=>?_) (fun e2=>?_)<;>simp only[go_sem,e1,e2]<;>rw[← hfin',e1,e2]<;>simp
   ·simp only[go_sem,e1]
    rw[← hfin',e1]; rfl
theorem iT (d:DVal) {k:Nat} (hk:k<d.s.size) (hc:P7 d.s[k]=false) (h1:¬ d.ty=1):false=EX d:=by
 have ht:Nj d.s=false:=by
  simp only[Nj,vF]
  intro hall
  rw[hall k hk] at hc
  cases hc
 simp[EX,Eh h1,ht]
theorem EY (d:DVal):Ctr prog 146 [.agg d.c] [.val (.c (.v (.bool (EX d))))]:=by
 refine CM call146 func146 ntmps146 results146 fun hw=>?_
 have hs:d.s.size≤9223372036854775807:=Y8 hw.1.2.2.1
 simp only[go_sem]
 refine cndC.mk (fun h=>?_) (fun h=>?_)
 ·have h1:d.ty=1:=by simpa using h
  simp only[go_sem]
  refine CallK.mk _ (YW _) fun _=>?_
  simp only[go_sem]
  refine gO.mk (fun h=>?_) (fun h=>?_)<;>simp only[go_sem,h]<;>simp_all [EX]
 ·have h1:¬ d.ty=1:=by simpa using h
  simp only[go_sem]
  refine cndC.mk (fun h2=>?_) (fun h2=>?_)
  ·have h2':d.ty=2:=by simpa using h2
   simp only[go_sem]
   refine LoopK.mk 1 [1,3] (A:=Nat) (fun k=>⟨66,[(1,.lp 0 0 0),(3,.c (.v (.int .i64 k)))],[⟨75,3,[d.c],true,true⟩]⟩) (fun k=>k≤d.s.size∧∀ i (h:i<d.s.size),i<k→P7 d.s[i]=true) (fun k=>d.s.size-k) 0 ⟨⟨rfl,rfl⟩,rfl,aJ _,fun i _ hi=>by omega⟩ ?_
   rintro k ⟨hk,hok⟩
   simp only[go_sem]
   refine cndC.mk (fun h=>?_) (fun h=>?_)
   ·have hk':k<d.s.size:=by simpa using h
    have hb:d.s[k]?=some d.s[k]:=getElem?_pos d.s k hk'
    have hgood:P7 d.s[k]=true→∀ i (h:i<d.s.size),i<k+1→P7 d.s[i]=true:=by
     intro hg i hi hik
     by_cases e:i=k
     ·subst e; exact hg
     ·exact hok i hi (by omega)
    rcases hA:decide ((d.s[k].toNat:Int)≥97) with _ | _<;>rcases hB:decide ((d.s[k].toNat:Int)≤122) with _ | _<;>rcases hC:decide ((d.s[k].toNat:Int)≥48) with _ | _<;>rcases hD:decide ((d.s[k].toNat:Int)≤57) with _ | _ <;>
     simp only[go_sem,hb,hA,hB,hC,hD,wrap_i64 (n:=(k:Int)+1) (by omega) (by omega)]<;>simp at hA hB hC hD<;>first
     | (rw[iT d hk' (by simp[P7,Ce]; omega) h1]; done)
     | exact⟨k+1,⟨rfl,rfl⟩,rfl,⟨by omega,hgood (by simp[P7,Ce]; omega)⟩,by omega⟩
   ·have hk':k=d.s.size:=by simp at h; omega
    have ht:Nj d.s=true:=by
     simp only[Nj,dm]
     intro i hi
     exact hok i hi (by omega)
    simp only[go_sem]
    refine gO.mk (fun e1=>?_) (fun e1=>?_)<;>simp only[go_sem,e1]<;>simp[EX,Eh h1,ht]<;>simp at e1<;>simp[h2']<;>omega
  ·have h2':¬ d.ty=2:=by simpa using h2
   simp only[go_sem]
   simp[EX,Eh h1,h2']
def fits:List Int→List DVal→Bool
 | [],[]=>true
 | c::cs,v::vs=>EX v&&(v.ty==c)&&fits cs vs
 | _,_=>false
theorem Q_:∀ (cs:List Int) (vs:List DVal),cs.length≠vs.length→fits cs vs=false
 | [],[],h=>by simp at h
 | [],_::_,_=>rfl
 | _::_,[],_=>rfl
 | c::cs,v::vs,h=>by simp only[fits]; rw[Q_ cs vs (by simpa using h)]; simp
theorem TP (cs:List Int) (vs:List DVal) {k:Nat} (h1:k<cs.length) (h2:k<vs.length):fits (cs.drop k) (vs.drop k)=(EX vs[k]&&(vs[k].ty==cs[k])&&fits (cs.drop (k+1)) (vs.drop (k+1))):=by
 rw[aF h1,aF h2]; rfl
theorem RD (cs:List Int) (vs:List DVal):Ctr prog 128 [.c (.sl (cs.map intC)),.c (.sl (vs.map DVal.c))] [.val (.c (.v (.bool (fits cs vs))))]:=by
 refine CM call128 func128 ntmps128 results128 fun hw=>?_
 have hlen:vs.length≤9223372036854775807:=by have:=hw.2.1.1; simpa [Go.maxLen] using this
 simp only[go_sem,ae]
 refine cndC.mk (fun h=>?_) (fun h=>?_)
 ·simp only[go_sem]
  rw[Q_ cs vs (by simp at h; omega)]
 ·have he:cs.length=vs.length:=by simp at h; omega
  simp only[go_sem]
  refine LoopK.mk 0 [0,1,5] (A:=Nat) (fun k=>⟨35,[(0,.c (.sl (cs.map intC))),(1,.c (.sl (vs.map DVal.c))),(5,.c (.v (.int .i64 k)))],[]⟩) (fun k=>k≤vs.length∧fits (cs.drop k) (vs.drop k)=fits cs vs) (fun k=>vs.length-k) 0 ⟨⟨rfl,rfl⟩,rfl,aJ _,rfl⟩ ?_
  rintro k ⟨hk,hf⟩
  simp only[go_sem,ae]
  refine cndC.mk (fun h=>?_) (fun h=>?_)
  ·have hk':k<vs.length:=by simpa using h
   have hk2:k<cs.length:=by omega
   rw[TP cs vs hk2 hk'] at hf
   simp only[go_sem]
   refine DrawK.mk ?_
   simp only[go_sem,ae,AA _ hk',AA _ hk2,hk',hk2]
   refine CY (IX vs[k]) ?_
   rcases hv:EX vs[k] with _ | _
   ·simp only[go_sem,hv]
    rw[hv] at hf
    simp at hf
    rw[hf]
   ·simp only[go_sem,hv,AA _ hk',AA _ hk2]
    rcases ht:vs[k].ty==cs[k] with _ | _
    ·simp only[go_sem,bne,ht]
     rw[ht] at hf
     simp at hf
     rw[hf]
    ·simp only[go_sem,bne,ht,wrap_i64 (n:=(k:Int)+1) (by omega) (by omega)]
     rw[hv,ht] at hf
     simp only[aH,aU] at hf
     exact⟨k+1,⟨rfl,rfl⟩,rfl,⟨by omega,hf⟩,by omega⟩
  ·have hk':k=vs.length:=by simp at h; omega
   subst hk'
   simp only[go_sem]
   rw[← hf,aP,← he,aP]; rfl
theorem MM (cs:List Int) (vs:List DVal):Ctr prog 108 [.c (.sl (cs.map intC)),.c (.sl (vs.map DVal.c))] [.val (.c (.v (.bool (fits cs vs))))]:=by
 refine CM call108 func108 ntmps108 results108 fun hw=>?_
 have hlen:vs.length≤9223372036854775807:=by have:=hw.2.1.1; simpa [Go.maxLen] using this
 simp only[go_sem,ae]
 refine cndC.mk (fun h=>?_) (fun h=>?_)
 ·simp only[go_sem]
  rw[Q_ cs vs (by simp at h; omega)]
 ·have he:cs.length=vs.length:=by simp at h; omega
  simp only[go_sem,ae]
  refine LoopK.mk 0 [0,12,13,14] (A:=Nat) (fun k=>⟨32,[(0,.c (.sl (cs.map intC))),(12,.c (.sl (vs.map DVal.c))),(13,.c (.v (.int .i64 vs.length))),(14,.c (.v (.int .i64 k)))],[]⟩) (fun k=>k≤vs.length∧fits (cs.drop k) (vs.drop k)=fits cs vs) (fun k=>vs.length-k) 0 ⟨⟨rfl,rfl⟩,rfl,aJ _,rfl⟩ ?_
  rintro k ⟨hk,hf⟩
  simp only[go_sem,ae]
  refine cndC.mk (fun h=>?_) (fun h=>?_)
  ·have hk':k<vs.length:=by simpa using h
   have hk2:k<cs.length:=by omega
   rw[TP cs vs hk2 hk'] at hf
   simp only[go_sem,AA _ hk']
   refine DrawK.mk ?_
   simp only[go_sem,ae,AA _ hk',AA _ hk2,hk',hk2]
   refine CY (EY vs[k]) ?_
   rcases hv:EX vs[k] with _ | _
   ·simp only[go_sem,hv]
    rw[hv] at hf
    simp at hf
    rw[hf]
   ·simp only[go_sem,hv,AA _ hk',AA _ hk2]
    rcases ht:vs[k].ty==cs[k] with _ | _
    ·simp only[go_sem,bne,ht]
     rw[ht] at hf
     simp at hf
     rw[hf]
    ·simp only[go_sem,bne,ht,wrap_i64 (n:=(k:Int)+1) (by omega) (by omega)]
     rw[hv,ht] at hf
     simp only[aH,aU] at hf
     exact⟨k+1,⟨rfl,rfl⟩,rfl,⟨by omega,hf⟩,by omega⟩
  ·have hk':k=vs.length:=by simp at h; omega
   subst hk'
   simp only[go_sem]
   rw[← hf,aP,← he,aP]; rfl
def rowOk (cs:List Int) (r:DRow):Bool:=decide (r.id≥0)&&fits cs r.l
theorem Wh (cs:List Int) (r:DRow):Ctr prog 125 [.c (.sl (cs.map intC)),.agg r.c] [.val (.c (.v (.bool (rowOk cs r))))]:=by
 refine CM call125 func125 ntmps125 results125 fun hw=>?_
 simp only[go_sem]
 rcases hi:decide (r.id≥0) with _ | _
 ·simp only[go_sem,hi]; simp only[rowOk,hi,aC]
 ·simp only[go_sem,hi]
  refine CallK.mk _ (RD cs r.l) fun _=>?_
  simp only[go_sem,hi]; simp only[rowOk,hi,aU]
theorem Wi (cs:List Int) (r:DRow):Ctr prog 144 [.c (.sl (cs.map intC)),.agg r.c] [.val (.c (.v (.bool (rowOk cs r))))]:=by
 refine CM call144 func144 ntmps144 results144 fun hw=>?_
 simp only[go_sem]
 rcases hi:decide (r.id≥0) with _ | _
 ·simp only[go_sem,hi]; simp only[rowOk,hi,aC]
 ·simp only[go_sem,hi]
  refine CallK.mk _ (MM cs r.l) fun _=>?_
  simp only[go_sem,hi]; simp only[rowOk,hi,aU]
def J5 (cs:List Int):Bool:=cs.all fun c=>Ce c 1 2
def H7 (cs:List Int):Bool:=J5 cs&&Ce cs.length 1 3
theorem RF (cs:List Int) {k:Nat} (h:k<cs.length):J5 (cs.drop k)=(Ce cs[k] 1 2&&J5 (cs.drop (k+1))):=by
 rw[aF h]; rfl
theorem RG (cs:List Int):Ctr prog 126 [.c (.sl (cs.map intC))] [.val (.c (.v (.bool (H7 cs))))]:=by
 refine CM call126 func126 ntmps126 results126 fun hw=>?_
 have hlen:cs.length≤9223372036854775807:=by have:=hw.1.1; simpa [Go.maxLen] using this
 simp only[go_sem,ae]
 refine LoopK.mk 0 [0,3] (A:=Nat) (fun k=>⟨19,[(0,.c (.sl (cs.map intC))),(3,.c (.v (.int .i64 k)))],[]⟩) (fun k=>k≤cs.length∧J5 (cs.drop k)=J5 cs) (fun k=>cs.length-k) 0 ⟨⟨rfl,rfl⟩,rfl,aJ _,rfl⟩ ?_
 rintro k ⟨hk,hf⟩
 simp only[go_sem,ae]
 refine cndC.mk (fun h=>?_) (fun h=>?_)
 ·have hk':k<cs.length:=by simpa using h
  rw[RF cs hk'] at hf
  simp only[go_sem,AA _ hk']
  refine CallK.mk _ (BB _ _ _) fun _=>?_
  simp only[go_sem]
  rcases hi:Ce cs[k] 1 2 with _ | _
  ·simp only[go_sem,hi]
   rw[hi,aC] at hf
   simp only[H7,← hf,aC]
  ·simp only[go_sem,hi,wrap_i64 (n:=(k:Int)+1) (by omega) (by omega)]
   rw[hi,aU] at hf
   exact⟨k+1,⟨rfl,rfl⟩,rfl,⟨by omega,hf⟩,by omega⟩
 ·have hk':k=cs.length:=by simp at h; omega
  subst hk'
  simp only[go_sem,ae]
  refine CallK.mk _ (BB _ _ _) fun _=>?_
  simp only[go_sem]
  rw[aP] at hf
  simp only[H7,← hf]; simp[J5]
theorem RH (cs:List Int):Ctr prog 143 [.c (.sl (cs.map intC))] [.val (.c (.v (.bool (H7 cs))))]:=by
 refine CM call143 func143 ntmps143 results143 fun hw=>?_
 have hlen:cs.length≤9223372036854775807:=by have:=hw.1.1; simpa [Go.maxLen] using this
 simp only[go_sem,ae]
 refine LoopK.mk 0 [0,5,6,7] (A:=Nat) (fun k=>⟨21,[(0,.c (.sl (cs.map intC))),(5,.c (.sl (cs.map intC))),(6,.c (.v (.int .i64 cs.length))),(7,.c (.v (.int .i64 k)))],[]⟩) (fun k=>k≤cs.length∧J5 (cs.drop k)=J5 cs) (fun k=>cs.length-k) 0 ⟨⟨rfl,rfl⟩,rfl,aJ _,rfl⟩ ?_
 rintro k ⟨hk,hf⟩
 simp only[go_sem,ae]
 refine cndC.mk (fun h=>?_) (fun h=>?_)
 ·have hk':k<cs.length:=by simpa using h
  rw[RF cs hk'] at hf
  simp only[go_sem,AA _ hk']
  have hgood:Ce cs[k] 1 2=true→J5 (cs.drop (k+1))=J5 cs:=by intro hi; rw[hi,aU] at hf; exact hf
  rcases h1:cs[k] != 1 with _ | _
  ·simp only[go_sem,h1,wrap_i64 (n:=(k:Int)+1) (by omega) (by omega)]
   exact⟨k+1,⟨rfl,rfl⟩,rfl,⟨by omega,hgood (by simp[Ce]; simp at h1; omega)⟩,by omega⟩
  ·rcases h2:cs[k] != 2 with _ | _
   ·simp only[go_sem,h1,h2,wrap_i64 (n:=(k:Int)+1) (by omega) (by omega)]
    exact⟨k+1,⟨rfl,rfl⟩,rfl,⟨by omega,hgood (by simp[Ce]; simp at h2; omega)⟩,by omega⟩
   ·simp only[go_sem,h1,h2]
    have hi:Ce cs[k] 1 2=false:=by simp[Ce]; simp at h1 h2; omega
    rw[hi,aC] at hf
    simp only[H7,← hf,aC]
 ·have hk':k=cs.length:=by simp at h; omega
  subst hk'
  simp only[go_sem,ae]
  refine CallK.mk _ (Aj _ _ _) fun _=>?_
  simp only[go_sem]
  rw[aP] at hf
  simp only[H7,← hf]; simp[J5]
def rowAt (cs:List Int) (l:List DRow) (i:Nat):Prop:=∀ h:i<l.length,rowOk cs l[i]=true∧(0<i→l[i-1].id<l[i].id)
noncomputable def RI (cs:List Int) (l:List DRow):Bool:=@decide (∀ i,rowAt cs l i) (Classical.propDecidable _)
noncomputable def DT (t:DTable):Bool:=H7 t.cols&&RI t.cols t.l
theorem Kw {cs:List Int} {l:List DRow} {i:Nat} (h:¬ rowAt cs l i):RI cs l=false:=by
 simp only[RI,vF]
 exact fun hall=>h (hall i)
theorem RJ {cs:List Int} {l:List DRow} (h:∀ i,i<l.length→rowAt cs l i):RI cs l=true:=by
 simp only[RI,dm]
 intro i hi
 exact h i hi hi
theorem Wj (t:DTable):Ctr prog 87 [.agg t.c] [.val (.c (.v (.bool (DT t))))]:=by
 refine CM call87 func87 ntmps87 results87 fun hw=>?_
 have hlen:t.l.length≤9223372036854775807:=by have:=hw.1.2.1.1; simpa [Go.maxLen] using this
 simp only[go_sem,ae]
 refine LoopK.mk 1 [1,3] (A:=Nat) (fun k=>⟨43,[(1,.lp 0 0 0),(3,.c (.v (.int .i64 k)))],[⟨37,2,[t.c],true,true⟩]⟩) (fun k=>k≤t.l.length∧∀ i,i<k→rowAt t.cols t.l i) (fun k=>t.l.length-k) 0 ⟨⟨rfl,rfl⟩,rfl,aJ _,fun i h=>by omega⟩ ?_
 rintro k ⟨hk,hf⟩
 simp only[go_sem,ae]
 refine cndC.mk (fun h=>?_) (fun h=>?_)
 ·have hk':k<t.l.length:=by simpa using h
  have hnext:rowAt t.cols t.l k→∀ i,i<k+1→rowAt t.cols t.l i:=by
   intro hg i hi
   by_cases e:i=k
   ·subst e; exact hg
   ·exact hf i (by omega)
  simp only[go_sem]
  refine DrawK.mk ?_
  simp only[go_sem,ae,AA _ hk',hk']
  refine CY (Wh t.cols t.l[k]) ?_
  rcases hv:rowOk t.cols t.l[k] with _ | _
  ·simp only[go_sem,hv]
   have hno:¬ rowAt t.cols t.l k:=by intro hg; have:=(hg hk').1; rw[hv] at this; cases this
   simp only[DT,Kw hno,bF]
  ·rcases Nat.eq_zero_or_pos k with hz | hz
   ·have hp:decide ((k:Int)>0)=false:=by simp; omega
    simp only[go_sem,hv,hp,wrap_i64 (n:=(k:Int)+1) (by omega) (by omega)]
    exact⟨k+1,⟨rfl,rfl⟩,rfl,⟨by omega,hnext fun _=>⟨hv,fun h0=>by omega⟩⟩,by omega⟩
   ·have hp:decide ((k:Int)>0)=true:=by simp; omega
    have hk1:k-1<t.l.length:=by omega
    have hw1:IntKind.i64.wrap ((k:Int)-1)=((k-1:Nat):Int):=by rw[wrap_i64 (by omega) (by omega)]; omega
    rcases hq:decide (t.l[k-1].id≥t.l[k].id) with _ | _
    ·simp only[go_sem,hv,hp,hw1,AA _ hk',AA _ hk1,hq,wrap_i64 (n:=(k:Int)+1) (by omega) (by omega)]
     exact⟨k+1,⟨rfl,rfl⟩,rfl,⟨by omega,hnext fun _=>⟨hv,fun _=>by simp at hq; omega⟩⟩,by omega⟩
    ·simp only[go_sem,hv,hp,hw1,AA _ hk',AA _ hk1,hq]
     have hno:¬ rowAt t.cols t.l k:=by intro hg; have:=(hg hk').2 hz; simp at hq; omega
     simp only[DT,Kw hno,bF]
 ·have hk':k=t.l.length:=by simp at h; omega
  simp only[go_sem]
  refine CallK.mk _ (RG _) fun _=>?_
  simp only[go_sem]
  simp only[DT,RJ (hk'▸hf),aH]
theorem Wl (t:DTable):Ctr prog 105 [.agg t.c] [.val (.c (.v (.bool (DT t))))]:=by
 refine CM call105 func105 ntmps105 results105 fun hw=>?_
 have hlen:t.l.length≤9223372036854775807:=by have:=hw.1.2.1.1; simpa [Go.maxLen] using this
 simp only[go_sem,ae]
 refine CallK.mk _ (RH _) fun _=>?_
 rcases hc:H7 t.cols with _ | _
 ·simp only[go_sem,hc]
  simp only[DT,hc,aC]
 simp only[go_sem,hc,ae]
 refine LoopK.mk 1 [1,10,11,12] (A:=Nat) (fun k=>⟨39,[(1,.lp 0 0 0),(10,.c (.sl (t.l.map DRow.c))),(11,.c (.v (.int .i64 t.l.length))),(12,.c (.v (.int .i64 k)))],[⟨37,2,[t.c],true,true⟩]⟩) (fun k=>k≤t.l.length∧∀ i,i<k→rowAt t.cols t.l i) (fun k=>t.l.length-k) 0 ⟨⟨rfl,rfl⟩,rfl,aJ _,fun i h=>by omega⟩ ?_
 rintro k ⟨hk,hf⟩
 simp only[go_sem,ae]
 refine cndC.mk (fun h=>?_) (fun h=>?_)
 ·have hk':k<t.l.length:=by simpa using h
  have hnext:rowAt t.cols t.l k→∀ i,i<k+1→rowAt t.cols t.l i:=by
   intro hg i hi
   by_cases e:i=k
   ·subst e; exact hg
   ·exact hf i (by omega)
  simp only[go_sem,AA _ hk']
  refine DrawK.mk ?_
  simp only[go_sem,ae,AA _ hk',hk']
  refine CY (Wi t.cols t.l[k]) ?_
  rcases hv:rowOk t.cols t.l[k] with _ | _
  ·simp only[go_sem,hv]
   have hno:¬ rowAt t.cols t.l k:=by intro hg; have:=(hg hk').1; rw[hv] at this; cases this
   simp only[DT,Kw hno,bF]
  ·rcases Nat.eq_zero_or_pos k with hz | hz
   ·have hp:decide ((k:Int)>0)=false:=by simp; omega
    simp only[go_sem,hv,hp,wrap_i64 (n:=(k:Int)+1) (by omega) (by omega)]
    exact⟨k+1,⟨rfl,rfl⟩,rfl,⟨by omega,hnext fun _=>⟨hv,fun h0=>by omega⟩⟩,by omega⟩
   ·have hp:decide ((k:Int)>0)=true:=by simp; omega
    have hk1:k-1<t.l.length:=by omega
    have hw1:IntKind.i64.wrap ((k:Int)-1)=((k-1:Nat):Int):=by rw[wrap_i64 (by omega) (by omega)]; omega
    rcases hq:decide (t.l[k-1].id≥t.l[k].id) with _ | _
    ·simp only[go_sem,hv,hp,hw1,AA _ hk',AA _ hk1,hq,wrap_i64 (n:=(k:Int)+1) (by omega) (by omega)]
     exact⟨k+1,⟨rfl,rfl⟩,rfl,⟨by omega,hnext fun _=>⟨hv,fun _=>by simp at hq; omega⟩⟩,by omega⟩
    ·simp only[go_sem,hv,hp,hw1,AA _ hk',AA _ hk1,hq]
     have hno:¬ rowAt t.cols t.l k:=by intro hg; have:=(hg hk').2 hz; simp at hq; omega
     simp only[DT,Kw hno,bF]
 ·have hk':k=t.l.length:=by simp at h; omega
  simp only[go_sem]
  simp only[DT,RJ (hk'▸hf),hc,aH]
end Go.Proofs.YtgkmefoghbjfnaaGreat
