/- A part. -/
import Derived.Test.YtdagmocgcanknaaGreatWe
import Derived.Test.YtdagmocgcanknaaGreatOa
set_option linter.unusedSimpArgs false
set_option linter.unusedVariables false
set_option maxHeartbeats 4000000
set_option maxRecDepth 100000
open Go.Proofs.Tryz
namespace Go.Proofs.YtdagmocgcanknaaGreat
open Go.Vm
def iQ {α:Type} (f:α->Prop) (l:List α):Prop:=l.length<=1099511627776/\∀ x∈l,f x
theorem fitS.big {α:Type} {f:α->Prop} {l:List α} (h:fitS f l):iQ f l:=⟨abI h.1 AOu,h.2⟩
theorem O1 {α:Type} {f:α->List Cl} {n:Nat} (h:∀ x,Go.Vm.rowOk n (f x)=true) (l:List α):Ll n (l.map f)=true:=aC.2 fun r hr=>by grind
theorem IQ (l:List DVal):Ll 3 (l.map DVal.c)=true:=O1 (fun _=>rfl) l
theorem F_ (l:List DVal) (h:l.length<=1048576):Ctr prog 195 [.c (.sl (l.map DVal.c))] [.own 112 3 (l.map DVal.c) true]:=by refine CM call195 func195 ntmps195 results195 fun hw=>?_;have hl:l.length<=2147483648:=AOl;simp only[go_sem,IQ,aa,hl,au,Ce];try simp
theorem UT (r:DRow) (h:r.l.length<=1048576):Ctr prog 260 [.agg r.c] [.agg r.o]:=by refine CM call260 func260 ntmps260 results260 fun hw=>?_;simp only[go_sem];refine AAR ?_;simp only[go_sem];refine ABg _ (F_ r.l h) ?_;simp only[go_sem,Ce];try exact AIG
theorem Y8 (r:DRow) (h:r.l.length<=1048576):Ctr prog 224 [.agg r.c] [.agg r.o]:=by refine CM call224 func224 ntmps224 results224 fun hw=>?_;have hl:r.l.length<=2147483648:=AOl;simp only[go_sem];refine AAR ?_;simp only[go_sem,IQ,aa,hl,au,Ce];try exact AIG
theorem Wy (out:List DVal) (v:DVal):(out ++ [v]).map DVal.c=out.map DVal.c ++ [[.v (.int .i64 v.ty),.v (.int .i64 v.n),.v (.string v.s)]]:=by simp[DVal.c_eq]
def Ha (l:List DRow) (k:Int):List DVal:=l.filterMap fun r=>if 0<=k then r.l[k.toNat]? else none
theorem lW {l:List DRow} {n:Int} {k:Nat} (h:k<l.length):Ha (l.drop k) n=(if h2:0<=n/\n.toNat<l[k].l.length then [l[k].l[n.toNat]'h2.2] else [])++Ha (l.drop (k+1)) n:=by unfold Ha;grind [aB]
theorem qU (l:List DRow) (n:Int) (ha:iQ Dn l):Ctr prog 267 [.c (.sl (l.map DRow.c)),.c (.v (.int .i64 (n)))] [.own 112 3 ((Ha l n).map DVal.c) true]:=by
 refine CM call267 func267 ntmps267 results267 fun hw=>?_;have hlen:=ha.1;simp only[go_sem,aa];refine AAv [8] (A:=Nat×List DVal) (fun x=>[(11,.c (.v (.int .i64 (x.1)))),(5,.c (.ref 0))]) (fun x=>[⟨112,3,x.2.map DVal.c,true,true⟩]) (fun x=>x.1<=l.length/\x.2++Ha (l.drop x.1) n=Ha l n) (fun x=>l.length-x.1) (0,[]) (AAS [(0,false)] ⟨rfl,rfl,rfl,trivial⟩ rfl) ⟨aq _,rfl⟩ ?_;rintro⟨k,out⟩ ⟨hk,hb⟩;dsimp only at hk hb;have hol:out.length<=l.length:=by exact AOH
 refine AOe (fun h=>?_) fun h=>?_
 .have hk':k<l.length:=by simpa using h
  have hr:=ha.2 _ (an hk');rw[JB] at hr;have hrl:=hr.1;rw[lW hk'] at hb;simp only[go_sem,aa,AA _ hk',hk',au];try refine AAP ?_
  try simp only[go_sem,aa,AA _ hk',hk',au]
  by_cases hn:0<=n/\n.toNat<l[k].l.length
  .rw[dif_pos hn] at hb;obtain⟨m,rfl⟩:=aF hn.1;have hm:m<l[k].l.length:=by have:=hn.2; simpa using this
   have e1:decide ((m:Int)>=0)=true:=AOm;have e2:decide ((m:Int)<(l[k].l.length:Int))=true:=AOn;have hol2:out.length+1<=1099511627776:=by have h1:(Ha l (m:Int)).length<=l.length:=aa2 _ _;exact AMd
   simp only[go_sem,aa,AA _ hk',AA _ hm,hk',hm,e1,e2,hol2,au];try refine AAR ?_
   simp only[go_sem,aI,aM,aa,AA _ hk',AA _ hm,hk',hm,e1,e2,hol2,au,wrap_i64 (n:=(k:Int)+1) AOl AOl];exact⟨(k+1,out ++ [l[k].l[m]]),AAS [(3,false)] ⟨rfl,rfl,by grind [Wy,AY,DVal.pure],trivial⟩ (by rw[<- Wy]; rfl),⟨hk',by rw[<- hb,ba]; rfl⟩,AOp⟩
  .rw[dif_neg hn,aA] at hb;have hfin:∀ P:Prop,P->P:=fun _ h=>h;rcases h1:decide (n>=0) with _ | _
   .simp only[go_sem,aa,AA _ hk',hk',h1,wrap_i64 (n:=(k:Int)+1) AOl AOl];exact AL2
   .have h2:decide (n<(l[k].l.length:Int))=false:=by simp at h1 ⊢; have:¬ n.toNat<l[k].l.length:=fun hh=>hn ⟨h1,hh⟩; omega
    simp only[go_sem,aa,AA _ hk',hk',h1,h2,wrap_i64 (n:=(k:Int)+1) AOl AOl];exact AL2
 .exact AMJ
theorem qV (l:List DRow) (n:Int) (ha:iQ Dn l):Ctr prog 242 [.c (.sl (l.map DRow.c)),.c (.v (.int .i64 (n)))] [.own 112 3 ((Ha l n).map DVal.c) true]:=by
 refine CM call242 func242 ntmps242 results242 fun hw=>?_;have hlen:=ha.1;simp only[go_sem,aa];refine AAv [7] (A:=Nat×List DVal) (fun x=>[(6,.c (.v (.int .i64 (x.1)))),(5,.c (.ref 0))]) (fun x=>[⟨112,3,x.2.map DVal.c,true,true⟩]) (fun x=>x.1<=l.length/\x.2++Ha (l.drop x.1) n=Ha l n) (fun x=>l.length-x.1) (0,[]) (AAS [(0,false)] ⟨rfl,rfl,rfl,trivial⟩ rfl) ⟨aq _,rfl⟩ ?_;rintro⟨k,out⟩ ⟨hk,hb⟩;dsimp only at hk hb;have hol:out.length<=l.length:=by exact AOH
 refine AOe (fun h=>?_) fun h=>?_
 .have hk':k<l.length:=by simpa using h
  have hr:=ha.2 _ (an hk');rw[JB] at hr;have hrl:=hr.1;rw[lW hk'] at hb;simp only[go_sem,aa,AA _ hk',hk',au];try refine AAP ?_
  try simp only[go_sem,aa,AA _ hk',hk',au]
  refine AAO _ (AP n 0 _) fun _=>?_;rw[wrap_i64 (n:=(l[k].l.length:Int)-1) AOl AOl];by_cases hn:0<=n/\n.toNat<l[k].l.length
  .rw[dif_pos hn] at hb;obtain⟨m,rfl⟩:=aF hn.1;have hm:m<l[k].l.length:=by have:=hn.2; simpa using this
   have e1:Ae (m:Int) 0 ((l[k].l.length:Int)-1)=true:=AQQ;have hol2:out.length+1<=1099511627776:=by have h1:(Ha l (m:Int)).length<=l.length:=aa2 _ _;exact AMd
   simp only[go_sem,aa,AA _ hk',AA _ hm,hk',hm,e1,hol2,au];try refine AAR ?_
   simp only[go_sem,aI,aM,aa,AA _ hk',AA _ hm,hk',hm,e1,hol2,au,wrap_i64 (n:=(k:Int)+1) AOl AOl];exact⟨(k+1,out ++ [l[k].l[m]]),AAS [(2,false)] ⟨rfl,rfl,by grind [Wy,AY,DVal.pure],trivial⟩ (by rw[<- Wy]; rfl),⟨hk',by rw[<- hb,ba]; rfl⟩,AOp⟩
  .rw[dif_neg hn,aA] at hb;have e1:Ae n 0 ((l[k].l.length:Int)-1)=false:=by simp[Ae]; intro h1; have:¬ n.toNat<l[k].l.length:=fun hh=>hn ⟨h1,hh⟩; omega
   simp only[go_sem,aa,AA _ hk',hk',e1,wrap_i64 (n:=(k:Int)+1) AOl AOl];exact AL2
 .exact AMJ
theorem allA {N:Nat} {a:Ob} (ha:Aq N a=true) : [a].all (Aq N)=true:=by simp[ha]
theorem TB (l:List DRow) (hl:fitS Dn l):Ctr prog 197 [.c (.sl (l.map DRow.c))] [.own 194 2 (l.map DRow.o) true]:=by
 refine CM call197 func197 ntmps197 results197 fun hw=>?_;have hlen:=hl.1;simp only[go_sem,aa];refine AAv [6] (A:=Nat×List DRow) (fun x=>[(9,.c (.v (.int .i64 (x.1)))),(3,.c (.ref 0))]) (fun x=>[⟨194,2,x.2.map DRow.o,true,true⟩]) (fun x=>x.1<=l.length/\x.2.length<=x.1/\x.2++l.drop x.1=l) (fun x=>l.length-x.1) (0,[]) (AAS [(0,false)] ⟨rfl,rfl,rfl,trivial⟩ rfl) ⟨aq _,aG _,rfl⟩ ?_;rintro⟨k,out⟩ ⟨hk,hol,hb⟩;dsimp only at hk hol hb;refine AOe (fun h=>?_) fun h=>?_
 .have hk':k<l.length:=by simpa using h
  rw[aB hk'] at hb;have hr:=hl.2 _ (an hk');rw[JB] at hr;have hrl:=hr.1;have hol2:out.length+1<=2147483648:=AOl;simp only[go_sem,aa,AA _ hk',hk',au];refine CW (UT l[k] hrl) fun _=>?_;simp only[go_sem,aI,aM,aa,AA _ hk',hk',hol2,Om,ax,au,wrap_i64 (n:=(k:Int)+1) AOl AOl]
  refine⟨(k+1,out ++ [l[k]]),ABi [(4,true),(2,false)] 1 0 ⟨rfl,rfl,Ic DRow.o_nr _ out rfl,AY DVal.pure,trivial⟩ ⟨out.length,out.map DRow.o ++ [DRow.o l[k]],_,DRow.o l[k],_,⟨dD 0,rfl,Ib DRow.o_nr _ out _ _,AOm,rfl⟩,
   ⟨rfl,rfl,rfl,rfl,rfl,rfl,Ce _,AO4,fun l hl=>AO0⟩,⟨rfl, ?tr⟩, ?eq⟩,⟨hk',AOn,(ba _ _ _).trans hb⟩,AOp⟩
  case tr=>unfold BJ; rw[BM]; exact allA (AX (Aj _))
  case eq=>unfold BJ; rw[BM,bl]; rfl
 .exact AMY
theorem Qp (l:List DRow) (hl:fitS Dn l):Ctr prog 143 [.c (.sl (l.map DRow.c))] [.own 194 2 (l.map DRow.o) true]:=by
 refine CM call143 func143 ntmps143 results143 fun hw=>?_;have hlen:=hl.1;simp only[go_sem,aa];refine AAv [6] (A:=Nat×List DRow) (fun x=>[(4,.c (.v (.int .i64 (x.1)))),(3,.c (.ref 0))]) (fun x=>[⟨194,2,x.2.map DRow.o,true,true⟩]) (fun x=>x.1<=l.length/\x.2.length<=x.1/\x.2++l.drop x.1=l) (fun x=>l.length-x.1) (0,[]) (AAS [(0,false)] ⟨rfl,rfl,rfl,trivial⟩ rfl) ⟨aq _,aG _,rfl⟩ ?_;rintro⟨k,out⟩ ⟨hk,hol,hb⟩;dsimp only at hk hol hb;refine AOe (fun h=>?_) fun h=>?_
 .have hk':k<l.length:=by simpa using h
  rw[aB hk'] at hb;have hr:=hl.2 _ (an hk');rw[JB] at hr;have hrl:=hr.1;have hol2:out.length+1<=2147483648:=AOl;simp only[go_sem,aa,AA _ hk',hk',au];refine CW (Y8 l[k] hrl) fun _=>?_;simp only[go_sem,aI,aM,aa,AA _ hk',hk',hol2,Om,ax,au,wrap_i64 (n:=(k:Int)+1) AOl AOl]
  refine⟨(k+1,out ++ [l[k]]),ABi [(4,true),(1,false)] 1 0 ⟨rfl,rfl,Ic DRow.o_nr _ out rfl,AY DVal.pure,trivial⟩ ⟨out.length,out.map DRow.o ++ [DRow.o l[k]],_,DRow.o l[k],_,⟨dD 0,rfl,Ib DRow.o_nr _ out _ _,AOm,rfl⟩,
   ⟨rfl,rfl,rfl,rfl,rfl,rfl,Ce _,AO4,fun l hl=>AO0⟩,⟨rfl, ?tr⟩, ?eq⟩,⟨hk',AOn,(ba _ _ _).trans hb⟩,AOp⟩
  case tr=>unfold BJ; rw[BM]; exact allA (AX (Aj _))
  case eq=>unfold BJ; rw[BM,bl]; rfl
 .exact AMY
open Go.RowKit
theorem lX (l:List DDead):Ll 3 (l.map DDead.c)=true:=O1 (fun _=>rfl) l
