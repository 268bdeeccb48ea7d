/- A part. -/
import Derived.Test.YthmifbbmgnhddaaGreatAj
import Derived.Test.YthmifbbmgnhddaaGreatEt
set_option linter.unusedSimpArgs false
set_option linter.unusedVariables false
set_option maxHeartbeats 2000000
set_option maxRecDepth 10000
open Go.Proofs.Tryz
namespace Go.Proofs.YthmifbbmgnhddaaGreat
open Go.Vm
section
variable {p q r:Prop}
theorem ASl(h:p:=by kernel_rfl):p:=h
end
def Um (l:List DRow) (r:DRow):List DRow:=l.takeWhile (fun x=>decide (x.id<r.id)) ++ [r]++l.dropWhile (fun x=>decide (x.id<r.id))
theorem dF {l:List DRow} {r:DRow} {k:Nat} (hk:k≤l.length) (h1:∀ j (h:j<l.length),j<k→l[j].id<r.id) (h2:∀ h:k<l.length,¬ l[k].id<r.id):Um l r=l.take k ++ [r]++l.drop k:=by
 have key:∀ (l:List DRow) (k:Nat),k≤l.length→(∀ j (h:j<l.length),j<k→l[j].id<r.id)→(∀ h:k<l.length,¬ l[k].id<r.id)→l.takeWhile (fun x=>decide (x.id<r.id))=l.take k∧l.dropWhile (fun x=>decide (x.id<r.id))=l.drop k:=by
  intro l
  induction l with
  | nil=>simp_all
  | cons x l ih =>
   intro k hk h1 h2
   cases k with
   | zero =>
    simp_all
   | succ k =>
    have h0:x.id<r.id:=h1 0 AQ3 AQ2
    obtain⟨g1,g2⟩:=ih k AQ6 (fun j hj hjk=>by have:=h1 (j+1) ASR AQ2; simpa using this) (fun h=>by have:=h2 ARY; simpa using this)
    simp_all
 obtain⟨g1,g2⟩:=key l k hk h1 h2
 rw[Um,g1,g2]
theorem V8 {l:List DRow} (h:fitS Aw l) (k:Nat):fitS Aw (l.take k):=⟨by have:=h.1; simp; omega,fun x hx=>h.2 x (aaz hx)⟩
theorem fit_drop {l:List DRow} (h:fitS Aw l) (k:Nat):fitS Aw (l.drop k):=⟨by have:=h.1; simp; omega,fun x hx=>h.2 x (aaM hx)⟩
theorem MH (l:List DRow):((l.map DRow.c).all fun r=>r.length==2)=true:=aS.2 fun r hr=>by
 exact APL
theorem UC (l:List DRow) (k:Nat):((l.map DRow.c).drop k).take (l.length-k)=(l.drop k).map DRow.c:=by
 grind [aat,cO]
theorem QU (l:List DRow) (k:Nat):(l.map DRow.c).take k=(l.take k).map DRow.c:=ASM
theorem pY {α:Type} {f:α→List Cl} (hf:∀ x,(f x).all O6=true) (sel:List (Nat×Bool)) (A B:List α) (r row':List Cl) :
  (A.map f ++ [r]++B.map f).map (fun x=>x.map (NM sel))=(A.map f ++ [row']++B.map f).set A.length (r.map (NM sel)):=by
 rw[bQ,FD hf sel A r row',BM (PS hf)]
 grind
theorem set_mid {α:Type} {f:α→List Cl} (A B:List α) (x:α):(A.map f ++ [f x]++B.map f).set A.length (f x)=(A ++ [x]++B).map f:=by
 grind
theorem pg {α:Type} {f:α→List Cl} (hf:∀ x,(f x).all O6=true) (sel:List (Nat×Bool)) (A B:List α) {r:List Cl} (hr:r.all (inC sel)=true):((A.map f ++ [r]++B.map f).all fun x=>x.all (inC sel))=true:=by
 rw[lM,FH hf sel A hr,Bc (PS hf)]; rfl
theorem ADY (l:List DRow) (r:DRow) (hl:fitS Aw l) (hr:r.l.length≤1048576):Ctr prog 337 [.c (.sl (l.map DRow.c)),.agg r.c] [.own 201 2 ((Um l r).map DRow.o) true]:=by
 refine AEJ call337 func337 rfl mixed ntmps337 results337 ASl rfl fun hw=>?_
 have hlen:=hl.1
 simp only[go_sem,ae]
 refine AAT 1 (A:=Nat) (fun k=>[(5,.c (.v (.int .i64 (k))))]) (fun _=>[⟨201,2,[[.v (.int .i64 r.id),.sl (r.l.map DVal.c)]],true,true⟩]) (fun k=>k≤l.length∧∀ j (h:j<l.length),j<k→l[j].id<r.id) (fun k=>l.length-k) 0 ⟨⟨rfl,rfl⟩,rfl,au _,fun j _ h=>AQ2⟩ ?_
 rintro k ⟨hk,hlt⟩
 by_cases hk':k<l.length
 ·have e1:decide ((k:Int)<(l.length:Int))=true:=by simp; exact hk'
  rcases e2:decide (l[k].id<r.id) with _ | _
  ·have hno:¬ l[k].id<r.id:=by simpa using e2
   simp only[go_sem,ae,e1]
   refine AAO ?_
   simp only[go_sem,ae,AA _ hk',hk',e1,e2]
   have hput:=dF hk hlt fun _=>hno
   exact AHC
  ·exact ANf
 ·have e1:decide ((k:Int)<(l.length:Int))=false:=by simp; omega
  simp only[go_sem,ae,e1]
  refine AAO ?_
  simp only[go_sem,ae,e1]
  have hput:=dF hk hlt fun _=>AQ2
  exact AHC
theorem ADZ (l:List DRow) (r:DRow) (hl:fitS Aw l) (hr:r.l.length≤1048576):Ctr prog 365 [.c (.sl (l.map DRow.c)),.agg r.c] [.own 201 2 ((Um l r).map DRow.o) true]:=by
 refine AEJ call365 func365 rfl mixed ntmps365 results365 ASl rfl fun hw=>?_
 have hlen:=hl.1
 simp only[go_sem,ae]
 refine AAT 1 (A:=Nat) (fun k=>[(5,.c (.v (.int .i64 (k))))]) (fun _=>[⟨201,2,[[.v (.int .i64 r.id),.sl (r.l.map DVal.c)]],true,true⟩]) (fun k=>k≤l.length∧∀ j (h:j<l.length),j<k→l[j].id<r.id) (fun k=>l.length-k) 0 ⟨⟨rfl,rfl⟩,rfl,au _,fun j _ h=>AQ2⟩ ?_
 rintro k ⟨hk,hlt⟩
 by_cases hk':k<l.length
 ·have e1:decide ((k:Int)<(l.length:Int))=true:=by simp; exact hk'
  rcases e2:decide (l[k].id<r.id) with _ | _
  ·have hno:¬ l[k].id<r.id:=by simpa using e2
   simp only[go_sem,ae,e1]
   refine AAO ?_
   simp only[go_sem,ae,AA _ hk',hk',e1,e2]
   have hput:=dF hk hlt fun _=>hno
   exact AHB
  ·exact ANf
 ·have e1:decide ((k:Int)<(l.length:Int))=false:=by simp; omega
  simp only[go_sem,ae,e1]
  refine AAO ?_
  simp only[go_sem,ae,e1]
  have hput:=dF hk hlt fun _=>AQ2
  exact AHB
def DTable.o (d:DTable):List Cl:=[.ow 3 1 (d.cols.map intC)]++([.ow 201 2 (d.l.map DRow.o)])
@[go_sem] theorem DTable.o_eq (d:DTable):d.o = [.ow 3 1 (d.cols.map intC)]++([.ow 201 2 (d.l.map DRow.o)]):=rfl
theorem DTable.o_nr (d:DTable):d.o.all O6=true:=by
 rw[DTable.o_eq]
 simp[lM,O6]
theorem DTable.o_er (d:DTable):Lu d.o=d.c:=by
 rw[DTable.o_eq,DTable.c_eq]
 simp[Io,Lu,er,DW,DU]
theorem AAb (d:DTable):EP d.o=true:=by
 rw[DTable.o_eq]
 simp only[EP,Hr,Qd,dH,aF,Bool.and_self,aT,aG]
theorem mr (l:List Int):Jq 1 (l.map intC)=true:=MK (fun _=>rfl) l
theorem Ri (t:DTable) (hc:t.cols.length≤1048576) (hl:fitS Aw t.l):Ctr prog 275 [.agg t.c] [.agg t.o]:=by
 refine CM call275 func275 ntmps275 results275 fun hw=>?_
 simp only[go_sem]
 refine AAR ?_
 simp only[go_sem]
 refine ABO _ (Hf t.cols hc) ?_
 simp only[go_sem,AX]
 refine CZ (GI t.l hl) ?_
 simp only[go_sem,AX,AO]
 try exact AHA
theorem eu (t:DTable) (hc:t.cols.length≤1048576) (hl:fitS Aw t.l):Ctr prog 268 [.agg t.c] [.agg t.o]:=by
 refine CM call268 func268 ntmps268 results268 fun hw=>?_
 have hl2:t.cols.length≤2147483648:=AQ2
 simp only[go_sem]
 refine AAR ?_
 simp only[go_sem,mr,ae,hl2,ak,AX]
 refine CZ (IU t.l hl) ?_
 simp only[go_sem,AX,AO]
 try exact AHA
def Zz (d:DDeed):DRow:=⟨d.id,d.r⟩
def Rj (l:List DRow) (n:Int):List DRow:=l.filter fun r=>!O4 [n] r.id
def Fj (t:DTable) (d:DDeed):Bool:=
 if(d.code==4)=true then !fits t.cols d.r else if(d.code==3)=true then fits t.cols d.r else if(d.code==1)=true then !((GX t.l d.id).isSome||(!fits t.cols d.r||decide (d.id<0))) else false
def SA (t:DTable) (d:DDeed):DTable:=if(d.code==1)=true then(if Fj t d=true then⟨t.cols,Um t.l (Zz d)⟩ else t) else t
def QV:Option DRow→AV
 | none=>.agg [.v (.int .i64 0),.sl []]
 | some r=>.agg r.c
theorem m_ (o:Option DRow) (b:Bool) : [SK o,.val (.c (.v (.bool (b))))].map XG = [.val (QV o),.val (.c (.v (.bool (b))))]:=by
 cases o with
 | none=>rfl
 | some r=>simp only[SK,QV,TA,df,XG,DRow.o_er]
theorem SB (l:List DRow) (n:Int) (ha:fitS Aw l):Ctr prog 285 [.c (.sl (l.map DRow.c)),.c (.v (.int .i64 (n)))] [.val (QV (GX l n)),.val (.c (.v (.bool ((GX l n).isSome))))]:=by
 rw[← m_]
 exact(AAs l n ha.big).frz
theorem vW (l:List DRow) (n:Int) (ha:fitS Aw l):Ctr prog 291 [.c (.sl (l.map DRow.c)),.c (.v (.int .i64 (n)))] [.val (QV (GX l n)),.val (.c (.v (.bool ((GX l n).isSome))))]:=by
 rw[← m_]
 exact(AAr l n ha.big).frz
def Fe (t:DTable) (d:DDeed):Bool:=
 if(d.code==4)=true then decide (d.id<0) else if(d.code==2)=true then !(GX t.l d.id).isSome else if(d.code==1)=true then(GX t.l d.id).isSome else false
def KH (t:DTable) (d:DDeed):DTable:=if(d.code==1)=true then⟨t.cols,Rj t.l d.id⟩ else t
theorem VJ {f:FuncId} {args:List AV} {q:DQuery} {l:List DRow} (h:Ctr prog f args [LJ q l]):Ctr prog f args [.val (.agg (answer q l).c)]:=by
 rw[← AAX]
 exact h.frz
theorem VK (q:DQuery) (l:List DRow) (hq:q.out.length≤1048576) (hl:fitS Aw l):fitS Aw (answer q l).rows:=by
 have h0:fitS Aw ([]:List DRow):=⟨AQ3,fun x hx=>by simp at hx⟩
 unfold answer
 repeat' split
 ·have hm:fitS Aw (meant q l):=⟨aba (mf q l) hl.1,fun x hx=>hl.2 x (List.mem_filter.1 hx).1⟩
  refine⟨by simp; exact hm.1,fun x hx=>?_⟩
  obtain⟨r,hr,rfl⟩:=UT.1 hx
  rw[DN]
  have h1:(Ul r q.out).length≤q.out.length:=aaE _ _
  refine⟨by simp only[QT]; omega,fun v hv=>?_⟩
  have h2:=hm.2 r hr
  rw[DN] at h2
  simp only[QT,Ul,List.mem_filterMap] at hv
  obtain⟨k,_,hk⟩:=hv
  split at hk
  ·exact h2.2 v (bI hk)
  ·cases hk
 all_goals exact h0
def Cm (t:DTable) (d:DDeed):Bool:=
 if(d.code==0)=true then Ah t.cols d.q else if(d.code==4)=true then !Ah t.cols d.q else if(d.code==1)=true then Ah t.cols d.q&&GN d.res (answer d.q t.l) else false
noncomputable def OI (t:DTable) (d:DDeed):Bool:=GR t&&(Ef d&&(d.lin != -1))
noncomputable def AY (t:DTable) (d:DDeed):Option DTable:=
 if OI t d=true then
  (
   if(d.op==1)=true then(if Fj t d=true then some (SA t d) else none) else
   if(d.op==2)=true then(if Fe t d=true then some (KH t d) else none) else
   if(d.op==3)=true then(if Cm t d=true then some t else none) else some t)
 else none
noncomputable def Ju (t:DTable) (d:DDeed):DTable:=(AY t d).getD t
theorem Ar {t:DTable} {d:DDeed} (h:AY t d=none):Ju t d=t:=by simp[Ju,h]
theorem Bo {t t':DTable} {d:DDeed} (h:AY t d=some t'):Ju t d=t':=by simp[Ju,h]
theorem AFD {l:List DRow} {r:DRow} (hl:fitS Aw l) (hr:fitS Ee r.l):∀ x∈Um l r,Aw x:=by
 intro x hx
 simp only[Um,lN,aay] at hx
 rcases hx with (hx | rfl) | hx
 ·exact hl.2 x ((List.takeWhile_sublist _).subset hx)
 ·rw[DN]; exact hr
 ·exact hl.2 x ((List.dropWhile_sublist _).subset hx)
theorem vX (l:List DRow) (r:DRow):(Um l r).length=l.length+1:=by
 have:=congrArg List.length (List.takeWhile_append_dropWhile (p:=fun x:DRow=>decide (x.id<r.id)) (l:=l))
 simp only[Um,aN,List.length_singleton] at this ⊢
 omega
theorem vY {t:DTable} {d:DDeed} (ht:Em t) (hd:C_ d) (hroom:t.l.length+1≤1048576):Em (SA t d):=by
 rw[Ce] at ht
 rw[ES] at hd
 unfold SA
 repeat' split
 ·rw[Ce]
  exact⟨ht.1,by grind [vX],AFD ht.2 hd.1⟩
 ·exact(Ce t).mpr ht
 grind [Ce]
theorem nC {t:DTable} {d:DDeed} (ht:Em t):Em (KH t d):=by
 rw[Ce] at ht
 unfold KH
 split
 ·rw[Ce]
  exact⟨ht.1,aba (aaJ _ _) ht.2.1,fun x hx=>ht.2.2 x (List.mem_filter.1 hx).1⟩
 grind [Ce]
theorem ADa {t:DTable} {d:DDeed} (h:OI t d=true) (k1:(d.op==1)=true):Ju t d=(if Fj t d=true then SA t d else t)∧(AY t d).isSome=Fj t d:=by
 unfold Ju
 simp only[AY,h,k1,bH]
 cases Fj t d<;>exact⟨rfl,rfl⟩
theorem AAc {t:DTable} {d:DDeed} (h:OI t d=true) (k1:(d.op==1)=false) (k2:(d.op==2)=true):Ju t d=(if Fe t d=true then KH t d else t)∧(AY t d).isSome=Fe t d:=by
 unfold Ju
 simp only[AY,h,k1,k2,bH,aY,ay]
 cases Fe t d<;>exact⟨rfl,rfl⟩
theorem AAd {t:DTable} {d:DDeed} (h:OI t d=true) (k1:(d.op==1)=false) (k2:(d.op==2)=false) (k3:(d.op==3)=true):Ju t d=t∧(AY t d).isSome=Cm t d:=by
 unfold Ju
 simp only[AY,h,k1,k2,k3,bH,aY,ay]
 cases Cm t d<;>exact⟨rfl,rfl⟩
theorem vZ (t:DTable) (d:DDeed) (ht:Em t) (hd:C_ d) (hroom:GR t=true→t.l.length+1≤1048576):Ctr prog 269 [.agg t.c,.agg d.c] [.val (.agg (Ju t d).c),.val (.c (.v (.bool ((AY t d).isSome))))]:=by
 have ht0:=ht
 have hd0:=hd
 rw[Ce] at ht
 rw[ES] at hd
 have hcopy:∀ t:DTable,Em t→Ctr prog 268 [.agg t.c] [.val (.agg t.c)]:=fun t ht=>by rw[Ce] at ht; exact(eu t ht.1 ht.2).aggVal t.o_er
 refine CM call269 func269 ntmps269 results269 fun hw=>?_
 simp only[go_sem]
 refine CW (hcopy t ht0) fun _=>?_
 simp only[go_sem]
 refine CW (xJ t) fun _=>?_
 rcases h1:GR t with _ | _
 ·have hn:AY t d=none:=by simp[AY,OI,h1]
  rw[Ar hn,hn]
  simp only[go_sem,h1,aQ]
  refine CW (hcopy t ht0) fun _=>?_
  exact AIu
 have hroom:=hroom h1
 simp only[go_sem,h1]
 refine CW (Qb d) fun _=>?_
 rcases h2:Ef d with _ | _
 ·have hn:AY t d=none:=by simp[AY,OI,h1,h2]
  rw[Ar hn,hn]
  simp only[go_sem,h1,h2,aQ]
  refine CW (hcopy t ht0) fun _=>?_
  exact AIu
 rcases h3:(d.lin != -1) with _ | _
 ·have hn:AY t d=none:=by simp only[AY,OI,h1,h2,h3]; rfl
  rw[Ar hn,hn]
  simp only[go_sem,h1,h2,h3,aQ]
  refine CW (hcopy t ht0) fun _=>?_
  exact AIu
 have hdone:OI t d=true:=by simp only[OI,h1,h2,h3]; rfl
 rcases k1:(d.op==1) with _ | _
 rotate_left
 ·obtain⟨hX,hS⟩:=ADa hdone k1
  rw[hX,hS]
  simp only[go_sem,h1,h2,h3,k1]
  refine AD9 (fn:=f333) call333 func333 rfl mixed ntmps333 results333 ASl rfl ?_
  simp only[go_sem]
  refine AAO ?_
  simp only[go_sem]
  refine AAS _ (Jz t.cols d.r) ?_
  rcases k4:(d.code==4) with _ | _
  rotate_left
  ·have c1:(d.code==1)=false:=by simp at k4 ⊢; omega
   rcases h5:fits t.cols d.r with _ | _<;>simp only[go_sem,Fj,SA,h5,k4,c1,bH,aY,aO,aH]<;>refine CW (hcopy t ht0) fun _=>?_<;>simp only[go_sem]
  rcases k3:(d.code==3) with _ | _
  rotate_left
  ·have c1:(d.code==1)=false:=by simp at k3 ⊢; omega
   rcases h5:fits t.cols d.r with _ | _<;>simp only[go_sem,Fj,SA,h5,k4,k3,c1,bH,aY,aO,aH]<;>refine CW (hcopy t ht0) fun _=>?_<;>simp only[go_sem]
  rcases c1:(d.code==1) with _ | _
  ·simp only[go_sem,Fj,SA,k4,k3,c1,bH,aY]
   refine CW (hcopy t ht0) fun _=>?_
   exact AIu
  simp only[go_sem,k4,k3,c1]
  have hok:Fj t d = !((GX t.l d.id).isSome||(!fits t.cols d.r||decide (d.id<0))):=by simp[Fj,k4,k3,c1]
  rw[hok]
  rcases hf:GX t.l d.id with _ | r
  ·refine ACF 10 6 ASl ?_
   simp only[go_sem,k4,k3,c1]
   refine ABO _ (SB t.l d.id ht.2) ?_
   simp only[go_sem,k4,k3,c1,hf,QV,aQ]
   rcases h5:fits t.cols d.r with _ | _
   ·simp only[go_sem,h5,aO,aH,aY,ay]
    refine CW (hcopy t ht0) fun _=>?_
    exact AIu
   rcases h6:decide (d.id<0) with _ | _
   ·have hP:SA t d=⟨t.cols,Um t.l (Zz d)⟩:=by simp[SA,c1,hok,hf,h5,h6]
    have hfit:=vY ht0 hd0 hroom
    rw[hP] at hfit
    simp only[go_sem,h5,h6,hP,aO,aH,bH]
    refine AAR ?_
    simp only[go_sem]
    refine ABO _ (by simpa only[go_sem,Zz] using(ADZ t.l (Zz d) ht.2 hd.1.1).valO (DW _)) ?_
    simp only[go_sem,abP,abV]
    refine AAN _ (by simpa only[go_sem,Zz] using hcopy _ hfit) fun _=>?_
    simp only[go_sem,Zz]
   ·simp only[go_sem,h5,h6,aO,aH,aY,ay]
    refine CW (hcopy t ht0) fun _=>?_
    exact AIu
  ·refine ACF 10 6 ASl ?_
   simp only[go_sem,k4,k3,c1]
   refine ABO _ (SB t.l d.id ht.2) ?_
   simp only[go_sem,k4,k3,c1,hf,QV,aV,aO,aY,ay]
   refine CW (hcopy t ht0) fun _=>?_
   exact AIu
 rcases k2:(d.op==2) with _ | _
 rotate_left
 ·obtain⟨hX,hS⟩:=AAc hdone k1 k2
  rw[hX,hS]
  simp only[go_sem,h1,h2,h3,k1,k2]
  refine AD9 (fn:=f334) call334 func334 rfl mixed ntmps334 results334 ASl rfl ?_
  simp only[go_sem]
  refine ACF 10 6 ASl ?_
  simp only[go_sem]
  refine ABO _ (SB t.l d.id ht.2) ?_
  rcases hf:GX t.l d.id with _ | r
  all_goals
   simp only[go_sem,hf,QV,aQ,aV]
   rcases k4:(d.code==4) with _ | _
   rotate_left
   ·have c1:(d.code==1)=false:=by simp at k4 ⊢; omega
    rcases h6:decide (d.id<0) with _ | _<;>simp only[go_sem,Fe,KH,hf,h6,k4,c1,bH,aY,aQ,aV]<;>refine CW (hcopy t ht0) fun _=>?_<;>simp only[go_sem]
   rcases c2:(d.code==2) with _ | _
   rotate_left
   ·have c1:(d.code==1)=false:=by simp at c2 ⊢; omega
    simp only[go_sem,Fe,KH,hf,k4,c2,c1,bH,aY,aQ,aV,aO,aH]
    refine CW (hcopy t ht0) fun _=>?_
    exact AIu
   rcases c1:(d.code==1) with _ | _
   ·simp only[go_sem,Fe,KH,hf,k4,c2,c1,bH,aY]
    refine CW (hcopy t ht0) fun _=>?_
    exact AIu
   have hP:KH t d=⟨t.cols,Rj t.l d.id⟩:=by simp[KH,c1]
   have hfit:=nC (d:=d) ht0
   rw[hP] at hfit
   simp only[go_sem,Fe,hP,hf,k4,c2,c1,bH,aY,aQ,aV]
   refine AAR ?_
   simp only[go_sem,k4,c2,c1,ak,bz,bV]
   refine ABO _ (by simpa only[go_sem,TA,df,intC,Rj] using(AAZ t.l [d.id] ht.2 AQ3).valO (DW _)) ?_
   simp only[go_sem,abP,abV]
   first | (refine CW (hcopy t ht0) fun _=>?_; simp only[go_sem]; done) | (refine AAN _ (by simpa only[go_sem,Rj] using hcopy _ hfit) fun _=>?_; simp only[go_sem,Rj])
 rcases k3:(d.op==3) with _ | _
 rotate_left
 ·obtain⟨hX,hS⟩:=AAd hdone k1 k2 k3
  rw[hX,hS]
  simp only[go_sem,h1,h2,h3,k1,k2,k3]
  refine AD9 (fn:=f335) call335 func335 rfl mixed ntmps335 results335 ASl rfl ?_
  simp only[go_sem]
  refine AAO ?_
  simp only[go_sem]
  refine CY (Jj t.cols d.q ht.1 hd.2.1) ?_
  rcases h5:Ah t.cols d.q with _ | _
  all_goals
   rcases k0:(d.code==0) with _ | _
   rotate_left
   ·simp only[go_sem,Cm,k0,h5,bH,aY]
    refine CW (hcopy t ht0) fun _=>?_
    exact AIu
   rcases k4:(d.code==4) with _ | _
   rotate_left
   ·simp only[go_sem,Cm,k0,k4,h5,bH,aY,aO,aH]
    refine CW (hcopy t ht0) fun _=>?_
    exact AIu
   rcases c1:(d.code==1) with _ | _
   ·simp only[go_sem,Cm,k0,k4,c1,bH,aY]
    refine CW (hcopy t ht0) fun _=>?_
    exact AIu
   simp only[go_sem,Cm,k0,k4,c1,h5,bH,aY,ah,ag]
   try refine AAO ?_
   try simp only[go_sem,k0,k4,c1,h5]
  ·refine CW (hcopy t ht0) fun _=>?_
   exact AIu
  ·refine CY (VJ (pV d.q t.l hd.2.1 ht.2.big)) ?_
   simp only[go_sem]
   refine CY (lS d.res (answer d.q t.l) hd.2.2.1 (VK d.q t.l hd.2.1.2 ht.2)) ?_
   rcases h8:GN d.res (answer d.q t.l) with _ | _<;>simp only[go_sem,h8]<;>refine CW (hcopy t ht0) fun _=>?_<;>simp only[go_sem]
 have hn:AY t d=some t:=by simp only[AY,hdone,k1,k2,k3]; rfl
 rw[Bo hn,hn]
 simp only[go_sem,h1,h2,h3,k1,k2,k3,aV]
 refine CW (hcopy t ht0) fun _=>?_
 exact AIu
theorem ADb {l:List DRow} {n:Int} (h:GX l n=none):Rj l n=l:=by
 unfold Rj
 rw[List.filter_eq_self]
 intro x hx
 have:=List.find?_eq_none.1 h x hx
 simp only[O4]
 simp at this ⊢
 intro h2; exact this h2.symm
theorem Yz (l:List DRow) (n:Int) (hl:fitS Aw l):Ctr prog 338 [.c (.sl (l.map DRow.c)),.c (.sl ([n].map intC))] [.own 201 2 ((Rj l n).map DRow.o) true]:=AAY l [n] hl AQ3
theorem ve (t:DTable) (d:DDeed) (ht:Em t) (hd:C_ d) (hroom:GR t=true→t.l.length+1≤1048576):Ctr prog 276 [.agg t.c,.agg d.c] [.agg (Ju t d).o,.val (.c (.v (.bool ((AY t d).isSome))))]:=by
 have ht0:=ht
 have hd0:=hd
 rw[Ce] at ht
 rw[ES] at hd
 refine CM call276 func276 ntmps276 results276 fun hw=>?_
 simp only[go_sem]
 refine CW (Ri t ht.1 ht.2) fun _=>?_
 simp only[go_sem,AX,AO]
 refine CW (xK t) fun _=>?_
 rcases h1:GR t with _ | _
 ·have hn:AY t d=none:=by simp only[AY,OI,h1]; rfl
  rw[Ar hn,hn]
  simp only[go_sem,h1,aQ,AX,AO]
  try exact AHA
 have hroom:=hroom h1
 simp only[go_sem,h1]
 refine CW (Qc d) fun _=>?_
 rcases h2:Ef d with _ | _
 ·have hn:AY t d=none:=by simp only[AY,OI,h1,h2]; rfl
  rw[Ar hn,hn]
  simp only[go_sem,h1,h2,aQ,AX,AO]
  try exact AHA
 rcases h3:(d.lin == -1) with _ | _
 rotate_left
 ·have h3':(d.lin != -1)=false:=by simp[bne,h3]
  have hn:AY t d=none:=by simp only[AY,OI,h1,h2,h3']; rfl
  rw[Ar hn,hn]
  simp only[go_sem,h1,h2,h3,aQ,AX,AO]
  try exact AHA
 have h3':(d.lin != -1)=true:=by simp[bne,h3]
 have hdone:OI t d=true:=by simp only[OI,h1,h2,h3']; rfl
 simp only[go_sem,h1,h2,h3]
 refine CW (vW t.l d.id ht.2) fun _=>?_
 rcases hf:GX t.l d.id with _ | r
 ·simp only[go_sem,hf,QV,aQ,aV]
  refine AAN _ (G6 t.cols d.r) fun _=>?_
  rcases k1:(d.op==1) with _ | _
  rotate_left
  ·rcases c1:(d.code==1) with _ | _
   ·exact AF7
   ·have c4:(d.code==4)=false:=by simp at c1 ⊢; omega
    have c3:(d.code==3)=false:=ASd
    have hok:Fj t d = !((GX t.l d.id).isSome||(!fits t.cols d.r||decide (d.id<0))):=by simp[Fj,c4,c3,c1]
    rcases h5:fits t.cols d.r with _ | _
    ·have hok2:Fj t d=false:=by rw[hok,h5]; simp
     have hn:AY t d=none:=ARj
     rw[Ar hn,hn]
     simp only[go_sem,k1,c1,h5,aV,aQ,AX,AO]
     try exact AHA
    rcases h6:decide (d.id≥0) with _ | _
    ·have h6':decide (d.id<0)=true:=by simp at h6 ⊢; omega
     have hok2:Fj t d=false:=by rw[hok,h5,h6']; simp
     have hn:AY t d=none:=ARj
     rw[Ar hn,hn]
     simp only[go_sem,k1,c1,h5,h6,aV,aQ,AX,AO]
     try exact AHA
    have h6':decide (d.id<0)=false:=by simp at h6 ⊢; omega
    have hok2:Fj t d=true:=by rw[hok,hf,h5,h6']; rfl
    have hputT:SA t d=⟨t.cols,Um t.l (Zz d)⟩:=by simp only[SA,c1,hok2]; rfl
    have hn:AY t d=some (⟨t.cols,Um t.l (Zz d)⟩):=by simp only[AY,hdone,k1,hok2,hputT]; rfl
    rw[Bo hn,hn]
    simp only[go_sem,k1,c1,h5,h6,aH,aV]
    refine AAN _ (by simpa only[go_sem,Zz] using ADY t.l (Zz d) ht.2 hd.1.1) fun _=>?_
    simp only[go_sem,Zz,AX,AO]
    try simp[OwnL,AC,Zz]
  rcases k2:(d.op==2) with _ | _
  rotate_left
  ·rcases c1:(d.code==1) with _ | _
   rotate_left
   ·have c4:(d.code==4)=false:=by simp at c1 ⊢; omega
    have c2:(d.code==2)=false:=ASd
    have hok:Fe t d=(GX t.l d.id).isSome:=by simp[Fe,c4,c2,c1]
    rw[hf] at hok
    have hdT:KH t d=⟨t.cols,Rj t.l d.id⟩:=by simp[KH,c1]
    have hn:AY t d=none:=by simp only[AY,hdone,k1,k2,hok,aQ]; rfl
    rw[Ar hn,hn]
    have hsame:=ADb hf
    simp only[go_sem,k1,k2,c1,aV,aQ,ak,bz,bV]
    refine AAN _ (by simpa only[go_sem,TA,df,intC] using Yz t.l d.id ht.2) fun _=>?_
    simp only[go_sem,k1,k2,c1,AX,AO]
    try rw[hsame]
    try exact AHA
   have hdT:KH t d=t:=by simp[KH,c1]
   rcases c2:(d.code==2) with _ | _
   rotate_left
   ·have c4:(d.code==4)=false:=by simp at c2 ⊢; omega
    have hok:Fe t d = !(GX t.l d.id).isSome:=by simp[Fe,c4,c2]
    rw[hf] at hok
    have hn:AY t d=some (t):=by simp only[AY,hdone,k1,k2,hok,hdT,aV,aQ,aO,aH]; rfl
    rw[Bo hn,hn]
    simp only[go_sem,k1,k2,c1,c2,aO,aH,aV,aQ,AX,AO]
    try exact AHA
   rcases c4:(d.code==4) with _ | _
   ·have hok:Fe t d=false:=by simp[Fe,c4,c2,c1]
    have hn:AY t d=none:=ARu
    rw[Ar hn,hn]
    simp only[go_sem,k1,k2,c1,c2,c4,aV,aQ,AX,AO]
    try exact AHA
   have hok:Fe t d=decide (d.id<0):=by simp[Fe,c4]
   rcases h6:decide (d.id<0) with _ | _
   ·rw[h6] at hok
    have hn:AY t d=none:=ARu
    rw[Ar hn,hn]
    simp only[go_sem,k1,k2,c1,c2,c4,h6,aV,aQ,AX,AO]
    try exact AHA
   ·rw[h6] at hok
    have hn:AY t d=some (t):=by simp only[AY,hdone,k1,k2,hok,hdT]; rfl
    rw[Bo hn,hn]
    simp only[go_sem,k1,k2,c1,c2,c4,h6,aV,aQ,AX,AO]
    try exact AHA
  exact AE8
 ·simp only[go_sem,hf,QV,aQ,aV]
  refine AAN _ (G6 t.cols d.r) fun _=>?_
  rcases k1:(d.op==1) with _ | _
  rotate_left
  ·rcases c1:(d.code==1) with _ | _
   ·exact AF7
   ·have c4:(d.code==4)=false:=by simp at c1 ⊢; omega
    have c3:(d.code==3)=false:=ASd
    have hok:Fj t d = !((GX t.l d.id).isSome||(!fits t.cols d.r||decide (d.id<0))):=by simp[Fj,c4,c3,c1]
    rcases h5:fits t.cols d.r with _ | _
    ·have hok2:Fj t d=false:=by rw[hok,h5]; simp
     have hn:AY t d=none:=ARj
     rw[Ar hn,hn]
     simp only[go_sem,k1,c1,h5,aV,aQ,AX,AO]
     try exact AHA
    rcases h6:decide (d.id≥0) with _ | _
    ·have h6':decide (d.id<0)=true:=by simp at h6 ⊢; omega
     have hok2:Fj t d=false:=by rw[hok,h5,h6']; simp
     have hn:AY t d=none:=ARj
     rw[Ar hn,hn]
     simp only[go_sem,k1,c1,h5,h6,aV,aQ,AX,AO]
     try exact AHA
    have h6':decide (d.id<0)=false:=by simp at h6 ⊢; omega
    have hok2:Fj t d=false:=by rw[hok,hf]; simp
    have hn:AY t d=none:=ARj
    rw[Ar hn,hn]
    simp only[go_sem,k1,c1,h5,h6,aO,aV,aQ,AX,AO]
    try exact AHA
  rcases k2:(d.op==2) with _ | _
  rotate_left
  ·rcases c1:(d.code==1) with _ | _
   rotate_left
   ·have c4:(d.code==4)=false:=by simp at c1 ⊢; omega
    have c2:(d.code==2)=false:=ASd
    have hok:Fe t d=(GX t.l d.id).isSome:=by simp[Fe,c4,c2,c1]
    rw[hf] at hok
    have hdT:KH t d=⟨t.cols,Rj t.l d.id⟩:=by simp[KH,c1]
    have hn:AY t d=some (⟨t.cols,Rj t.l d.id⟩):=by simp only[AY,hdone,k1,k2,hok,hdT,aV]; rfl
    rw[Bo hn,hn]
    simp only[go_sem,k1,k2,c1,aV,aQ,ak,bz,bV]
    refine AAN _ (by simpa only[go_sem,TA,df,intC] using Yz t.l d.id ht.2) fun _=>?_
    simp only[go_sem,k1,k2,c1,AX,AO]
    try exact AHA
   have hdT:KH t d=t:=by simp[KH,c1]
   rcases c2:(d.code==2) with _ | _
   rotate_left
   ·have c4:(d.code==4)=false:=by simp at c2 ⊢; omega
    have hok:Fe t d = !(GX t.l d.id).isSome:=by simp[Fe,c4,c2]
    rw[hf] at hok
    have hn:AY t d=none:=by simp only[AY,hdone,k1,k2,hok,hdT,aV,aQ,aO,aH]; rfl
    rw[Ar hn,hn]
    simp only[go_sem,k1,k2,c1,c2,aO,aH,aV,aQ,AX,AO]
    try exact AHA
   rcases c4:(d.code==4) with _ | _
   ·have hok:Fe t d=false:=by simp[Fe,c4,c2,c1]
    have hn:AY t d=none:=ARu
    rw[Ar hn,hn]
    simp only[go_sem,k1,k2,c1,c2,c4,aV,aQ,AX,AO]
    try exact AHA
   have hok:Fe t d=decide (d.id<0):=by simp[Fe,c4]
   rcases h6:decide (d.id<0) with _ | _
   ·rw[h6] at hok
    have hn:AY t d=none:=ARu
    rw[Ar hn,hn]
    simp only[go_sem,k1,k2,c1,c2,c4,h6,aV,aQ,AX,AO]
    try exact AHA
   ·rw[h6] at hok
    have hn:AY t d=some (t):=by simp only[AY,hdone,k1,k2,hok,hdT]; rfl
    rw[Bo hn,hn]
    simp only[go_sem,k1,k2,c1,c2,c4,h6,aV,aQ,AX,AO]
    try exact AHA
  exact AE8
theorem VL {t:DTable} {d:DDeed} (ht:Em t) (hd:C_ d) (hroom:GR t=true→t.l.length+1≤1048576):Em (Ju t d):=by
 unfold Ju AY
 split
 ·rename_i hdone
  have h1:GR t=true:=by simp only[OI,az] at hdone; exact hdone.1
  repeat' split
  ·exact vY ht hd (hroom h1)
  ·exact ht
  ·exact nC ht
  ·exact ht
  ·exact ht
  ·exact ht
  ·exact ht
 ·exact ht
end Go.Proofs.YthmifbbmgnhddaaGreat
