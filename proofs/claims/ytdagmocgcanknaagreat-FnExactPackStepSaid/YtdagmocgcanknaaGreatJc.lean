/- A part. -/
import Derived.Test.YtdagmocgcanknaaGreatVp
set_option linter.unusedSimpArgs false
set_option linter.unusedVariables false
set_option maxHeartbeats 4000000
set_option maxRecDepth 10000
open Go.Proofs.Tryz
namespace Go.Proofs.YtdagmocgcanknaaGreat
open Go.Vm
section
variable {p q r:Prop}
theorem AQn(h:p:=by kernel_rfl):p:=h
end
def EZ (d:DDir) (i n:Nat) (r:DRef):DDir:=⟨IntKind.i64.wrap (d.ver+1),d.l.take i ++ [r]++d.l.drop (i+n)⟩
def YP (d:DDir) (i n:Int):Bool:=Ae i 0 ((d.l.length:Int)-1)&&Ae n 1 ((d.l.length:Int)-i)
def Gn (d:DDir) (i n:Int) (r:DRef):Bool:=YP d i n&&(J4 (EZ d i.toNat n.toNat r)&&(endOf (EZ d i.toNat n.toNat r)==endOf d))
def Md (d:DDir) (i n:Int) (r:DRef):DDir:=if Gn d i n r=true then EZ d i.toNat n.toNat r else d
theorem Nk {d:DDir} {i n:Int} {r:DRef} (h:Gn d i n r=false):Md d i n r=d:=by simp[Md,h]
theorem XK (d:DDir) (i n:Nat) (r:DRef):(EZ d i n r).l.length<=d.l.length+1:=by simp only[EZ,aP,aU,aaM,ag,aj];omega
theorem RF (d:DDir) (i n:Int) (r:DRef) (hl:d.l.length<1048576):Ctr prog 169 [.agg d.c,.c (.v (.int .i64 (i))),.c (.v (.int .i64 (n))),.agg r.c] [.agg (Md d i n r).o,.val (.c (.v (.bool (Gn d i n r))))]:=by
 have hc:=Wq d AOl;refine CM call169 func169 ntmps169 results169 fun hw=>?_;have hw:IntKind.i64.wrap ((d.l.length:Int)-1)=(d.l.length:Int)-1:=wrap_i64 AOl AOl;simp only[go_sem,aa,hw];refine AAO _ (AP i 0 ((d.l.length:Int)-1)) fun _=>?_;rcases h1:Ae i 0 ((d.l.length:Int)-1) with _ | _
 .have e1:Gn d i n r=false:=by simp only[Gn,YP,h1,ac]
  simp only[go_sem,e1,Nk e1];exact AKA
 simp only[Ae,ar,aQ] at h1;obtain⟨j,rfl⟩:=aF h1.1;have h1':Ae (j:Int) 0 ((d.l.length:Int)-1)=true:=AQQ;have hw2:IntKind.i64.wrap ((d.l.length:Int)-(j:Int))=(d.l.length:Int)-j:=wrap_i64 AOl AOl;simp only[go_sem,aa,hw2];refine AAO _ (AP n 1 ((d.l.length:Int)-j)) fun _=>?_;rcases h2:Ae n 1 ((d.l.length:Int)-j) with _ | _
 .have e1:Gn d j n r=false:=by simp only[Gn,YP,h1',h2,ac,ay]
  simp only[go_sem,e1,Nk e1];exact AKA
 simp only[Ae,ar,aQ] at h2;obtain⟨m,rfl⟩:=aF (show 0<=n from AOl);have h2':Ae (m:Int) 1 ((d.l.length:Int)-j)=true:=AQQ;have hw3:IntKind.i64.wrap ((j:Int)+(m:Int))=((j+m:Nat):Int):=AOq;have i1:E8 (.c (.v (.int .i64 ((j:Int)))))=some j:=BL .i64 j;have i2:E8 (.c (.v (.int .i64 ((j+m:Nat)))))=some (j+m):=BL .i64 _;have hj:j<=d.l.length:=AOl;have hjm:j+m<=d.l.length:=AOl;have hq:YP d j m=true:=by simp only[YP,h1',h2']; rfl
 have hl3:=XK d j m r;have hd:=SV (EZ d j m r) AOl;have he:=Ox (EZ d j m r) AOl;have he2:=Ox d AOl;have hr3:∀ l:List DRef,((l.map DRef.c).all fun x=>x.length==5)=true:=fun l=>aC.2 fun x hx=>by obtain⟨y,_,rfl⟩:=jB.1 hx;rfl
 have ht1:List.take j (d.l.map DRef.c)=(d.l.take j).map DRef.c:=bf.symm;have ht2:List.take (d.l.length-(j+m)) (List.drop (j+m) (d.l.map DRef.c))=(d.l.drop (j+m)).map DRef.c:=by rw[aau AOm,bk]
 have hl2:(d.l.take j).length<=2147483648:=AOn;have hx:(d.l.take j).length<=2147483647\/(d.l.take j).length<=1099511627775:=.inl AOn;have hx2:(d.l.take j).length+1+(d.l.drop (j+m)).length<=2147483648:=AOn;have hm:(d.l.take j).map DRef.c ++ [DRef.c r]++(d.l.drop (j+m)).map DRef.c=(EZ d j m r).l.map DRef.c:=by simp[EZ]
 simp only[go_sem] at ht1 ht2 hm;simp only[go_sem];refine ACb 8 10 [0,1,2,3,4,5,6,7,8,9,10,11,12,13,14,15,16,17,18,19,20,21] [0,1,2,3,4,5,6,7,9,10,8,11,12,13,14,15,16,17,18,19,20,21] rfl AQn AQn ?_ ?_;rotate_left;simp only[go_sem];refine ACb 3 9 [0,1,2,3,4,5,6,7,8,9,10,11,12,13,14,15,16,17,18,19,20,21] [0,1,2,8,9,3,4,5,6,7,10,11,12,13,14,15,16,17,18,19,20,21] rfl AQn AQn ?_ ?_
 all_goals
  simp only[go_sem]
  refine ACc 20 18 AQn ?_
  simp only[go_sem,i1,i2,hw3,hj,hjm,hr3,Sr,aa,aq,yG,ht1,ht2,hl2,hx,hx2,au,hm,aP,ag,aj]
  refine AAP ?_
  simp only[go_sem]
  refine ACg (args:=[.agg (EZ d j m r).c]) _ APS rfl hd ?_
  rcases h3:J4 (EZ d j m r) with _ | _
  .have e1:Gn d j m r=false:=by simp only[Gn,hq,aZ,h3,ac,ay]
   simp only[go_sem,aH,e1,Nk e1]
   exact AKA
  simp only[go_sem,aD]
  refine ACg (args:=[.agg (EZ d j m r).c]) _ APS rfl he ?_
  simp only[go_sem]
  first | refine CY (he2) ?_ | refine ACg (args:=[.agg d.c]) _ APS rfl he2 ?_
  rcases h4:endOf (EZ d j m r) != endOf d with _ | _
  .have h5:(endOf (EZ d j m r)==endOf d)=true:=by simpa [bne] using h4
   have e1:Gn d j m r=true:=by simp only[Gn,hq,aZ,h3,h5]; rfl
   exact AMF
  .have h5:(endOf (EZ d j m r)==endOf d)=false:=by simpa [bne] using h4
   have e1:Gn d j m r=false:=by simp only[Gn,hq,aZ,h3,h5]; rfl
   simp only[go_sem,h4,e1,Nk e1]
   exact AKA
theorem RG (d:DDir) (i n:Int) (r:DRef) (hl:d.l.length<1048576):Ctr prog 209 [.agg d.c,.c (.v (.int .i64 (i))),.c (.v (.int .i64 (n))),.agg r.c] [.agg (Md d i n r).o,.val (.c (.v (.bool (Gn d i n r))))]:=by
 have hc:=UQ d AOl;refine CM call209 func209 ntmps209 results209 fun hw=>?_;rcases hq:YP d i n with _ | _
 .have e1:Gn d i n r=false:=by simp only[Gn,hq,ac]
  rw[e1,Nk e1];rcases q1:decide (i<0) with _ | _;rotate_left
  .simp only[go_sem,q1];exact AKA
  rcases q2:decide (i>(d.l.length:Int)) with _ | _;rotate_left
  .simp only[go_sem,aa,q1,q2];exact AKA
  rcases q3:decide (n<1) with _ | _;rotate_left
  .simp only[go_sem,aa,q1,q2,q3];exact AKA
  have hw2:IntKind.i64.wrap ((d.l.length:Int)-i)=(d.l.length:Int)-i:=wrap_i64 (by simp at q1 q2; omega) (by simp at q1; omega);have q4:decide (n>(d.l.length:Int)-i)=true:=by simp only[YP,Ae,Bool.and_eq_false_iff,aaA] at hq;simp at q1 q2 q3 ⊢;omega
  simp only[go_sem,aa,q1,q2,q3,hw2,q4];exact AKA
 have hq':=hq;simp only[YP,Ae,ar,aQ] at hq;obtain⟨j,rfl⟩:=aF hq.1.1;obtain⟨m,rfl⟩:=aF (show 0<=n from AOl);have hw2:IntKind.i64.wrap ((d.l.length:Int)-(j:Int))=(d.l.length:Int)-j:=wrap_i64 AOl AOl;have hw3:IntKind.i64.wrap ((j:Int)+(m:Int))=((j+m:Nat):Int):=AOq;have q1:decide ((j:Int)<0)=false:=AOm;have q2:decide ((j:Int)>(d.l.length:Int))=false:=AOn;have q3:decide ((m:Int)<1)=false:=AOn;have q4:decide ((m:Int)>(d.l.length:Int)-j)=false:=AOn;have i1:E8 (.c (.v (.int .i64 ((j:Int)))))=some j:=BL .i64 j;have i2:E8 (.c (.v (.int .i64 ((j+m:Nat)))))=some (j+m):=BL .i64 _;have hj:j<=d.l.length:=AOl;have hjm:j+m<=d.l.length:=AOl;have hl3:=XK d j m r;have hd:=SS (EZ d j m r) AOl;have he:=Ov (EZ d j m r) AOl;have he2:=Ov d AOl;have hr3:∀ l:List DRef,((l.map DRef.c).all fun x=>x.length==5)=true:=fun l=>aC.2 fun x hx=>by obtain⟨y,_,rfl⟩:=jB.1 hx;rfl
 have ht1:List.take j (d.l.map DRef.c)=(d.l.take j).map DRef.c:=bf.symm;have ht2:List.take (d.l.length-(j+m)) (List.drop (j+m) (d.l.map DRef.c))=(d.l.drop (j+m)).map DRef.c:=by rw[aau AOm,bk]
 have hl2:(d.l.take j).length<=2147483648:=AOn;have hl4:(d.l.take j).length<=1048576:=AOn;have hx:(d.l.take j).length<=2147483647\/(d.l.take j).length<=1099511627775:=.inl AOn;have hx2:(d.l.take j).length+1+(d.l.drop (j+m)).length<=2147483648:=AOn;have hm:(d.l.take j).map DRef.c ++ [DRef.c r]++(d.l.drop (j+m)).map DRef.c=(EZ d j m r).l.map DRef.c:=by simp[EZ]
 simp only[go_sem] at ht1 ht2 hm;simp only[go_sem,aa,q2,q3,hw2,q4];refine ACb 7 9 [0,1,2,3,4,5,6,7,8,9,10,11,12,13] [0,1,2,3,4,5,6,8,9,7,10,11,12,13] rfl AQn AQn ?_ ?_
 all_goals
  simp only[go_sem]
  refine ACc 12 10 AQn ?_
  simp only[go_sem,i1,hj,hr3,aa,aq,yG,ht1,au,ag,aj]
  refine CZ (KU (d.l.take j) hl4) ?_
  simp only[go_sem,i1,hj,hr3,aa,aq,yG,ht1,hx,au,ag,aj]
  refine AAR ?_
  simp only[go_sem,i2,hw3,hjm,hr3,Sr,aa,aq,ht2,hx2,hm,aP,ag,aj]
  refine AAP ?_
  simp only[go_sem]
  refine ACg (args:=[.agg (EZ d j m r).c]) _ APS rfl hd ?_
  rcases h3:J4 (EZ d j m r) with _ | _
  .have e1:Gn d j m r=false:=by simp only[Gn,hq',aZ,h3,ac,ay]
   simp only[go_sem,aH,e1,Nk e1]
   exact AKA
  simp only[go_sem,aD]
  refine ACg (args:=[.agg (EZ d j m r).c]) _ APS rfl he ?_
  simp only[go_sem]
  first | refine CY (he2) ?_ | refine ACg (args:=[.agg d.c]) _ APS rfl he2 ?_
  rcases h4:endOf (EZ d j m r) != endOf d with _ | _
  .have h5:(endOf (EZ d j m r)==endOf d)=true:=by simpa [bne] using h4
   have e1:Gn d j m r=true:=by simp only[Gn,hq',aZ,h3,h5]; rfl
   exact AMF
  .have h5:(endOf (EZ d j m r)==endOf d)=false:=by simpa [bne] using h4
   have e1:Gn d j m r=false:=by simp only[Gn,hq',aZ,h3,h5]; rfl
   simp only[go_sem,h4,e1,Nk e1]
   exact AKA
