/- A part. -/
import Derived.Test.YtdagmocgcanknaaGreatYa
import Derived.Test.YtdagmocgcanknaaGreatWd
set_option linter.unusedSimpArgs false
set_option linter.unusedVariables false
set_option maxHeartbeats 2000000
set_option maxRecDepth 10000
open Go.Proofs.Tryz
namespace Go.Proofs.YtdagmocgcanknaaGreat
open Go.Vm
theorem FV (out:List Int) (c:Int):(out ++ [c]).map intC=out.map intC ++ [[.v (.int .i64 c)]]:=by simp[zf]
theorem AHi:DR []=true:=rfl
theorem Xz (n:Int):DK (intC n)=true:=rfl
def ZH:Option (List Int×Nat)->List Res
 | some (l,q)=>[.own 3 1 (l.map intC) true,.val (.c (.v (.int .i64 ((q:Int))))),.val (.c (.v (.bool (true))))]
 | none=>[.own 3 1 [] true,.val (.c (.v (.int .i64 (0)))),.val (.c (.v (.bool (false))))]
theorem jH (b:List Int) (p:Int) (hb:Ai b) (hl:b.length<=1048576):Ctr prog 290 [.c (.sl (b.map byteC)),.c (.v (.int .i64 (p)))] (ZH (FZ b p)):=by
 refine CM call290 func290 ntmps290 results290 fun hw=>?_;simp only[go_sem,aa];have hg:=Gx b p hb hl;rcases h1:Bh b p with _ | ⟨k,q⟩<;>rw[h1] at hg<;>simp only[WJ] at hg
 .refine AAO _ hg fun _=>?_;simp only[go_sem,FZ,h1,ZH];try simp[DR]
 refine AAO _ hg fun _=>?_;simp only[go_sem];refine AAO _ (AL _ _ _) fun _=>?_;rcases h2:Ae k 0 64 with _ | _
 .exact ANW
 have hk:0<=k/\k<=64:=AOw;obtain⟨K,rfl⟩:=aF hk.1;have hall:FZ b p=Ik b K q:=by simp only[FZ,h1,aV hk,aZ]
 simp only[go_sem,h2];refine AAv [28] (A:=Nat×Nat×List Int) (fun x=>[(10,.c (.v (.int .i64 (x.1)))),(9,.c (.ref 0)),(1,.c (.v (.int .i64 ((x.2.1:Int)))))]) (fun x=>[⟨3,1,x.2.2.map intC,true,true⟩]) (fun x=>x.1<=K/\x.2.2.length=x.1/\(Ik b (K-x.1) x.2.1).map (fun y=>(x.2.2++y.1,y.2))=FZ b p) (fun x=>K-x.1) (0,q,[]) (AAS [(0,false)] ⟨rfl,rfl,rfl,trivial⟩ rfl) ⟨aq _,rfl,by rw[hall]; simp⟩ ?_;rintro⟨i,q',l⟩ ⟨hi,hll,hb2⟩;dsimp only at hi hll hb2;refine AOe (fun h=>?_) fun h=>?_
 .have hi':i<K:=by simp at h; omega
  rw[show K-i=(K-(i+1))+1 from AOl,Ik] at hb2;have hg2:=Gx b q' hb hl;exact AI_
 .have hi':i=K:=by simp at h; omega
  subst hi';rw[jv,Ik] at hb2;simp only[bi,bc] at hb2;rw[<- hb2];simp only[go_sem,ZH,AQ];try exact AIG
theorem jI (b:List Int) (p:Int) (hb:Ai b) (hl:b.length<=1048576):Ctr prog 275 [.c (.sl (b.map byteC)),.c (.v (.int .i64 (p)))] (ZH (FZ b p)):=by
 refine CM call275 func275 ntmps275 results275 fun hw=>?_;simp only[go_sem,aa];have hg:=Gw b p hb hl;rcases h1:Bh b p with _ | ⟨k,q⟩<;>rw[h1] at hg<;>simp only[WJ] at hg
 .refine AAO _ hg fun _=>?_;simp only[go_sem,FZ,h1,ZH];try simp[DR]
 refine AAO _ hg fun _=>?_;simp only[go_sem];refine AAO _ (AP _ _ _) fun _=>?_;rcases h2:Ae k 0 64 with _ | _
 .exact ANW
 have hk:0<=k/\k<=64:=AOw;obtain⟨K,rfl⟩:=aF hk.1;have hall:FZ b p=Ik b K q:=by simp only[FZ,h1,aV hk,aZ]
 simp only[go_sem,h2];refine AAv [30] (A:=Nat×Nat×List Int) (fun x=>[(11,.c (.v (.int .i64 (x.1)))),(10,.c (.ref 0)),(8,.c (.v (.int .i64 ((x.2.1:Int)))))]) (fun x=>[⟨3,1,x.2.2.map intC,true,true⟩]) (fun x=>x.1<=K/\x.2.2.length=x.1/\(Ik b (K-x.1) x.2.1).map (fun y=>(x.2.2++y.1,y.2))=FZ b p) (fun x=>K-x.1) (0,q,[]) (AAS [(0,false)] ⟨rfl,rfl,rfl,trivial⟩ rfl) ⟨aq _,rfl,by rw[hall]; simp⟩ ?_;rintro⟨i,q',l⟩ ⟨hi,hll,hb2⟩;dsimp only at hi hll hb2;refine AOe (fun h=>?_) fun h=>?_
 .have hi':i<K:=by simp at h; omega
  rw[show K-i=(K-(i+1))+1 from AOl,Ik] at hb2;have hg2:=Gw b q' hb hl;exact AI_
 .have hi':i=K:=by simp at h; omega
  subst hi';rw[jv,Ik] at hb2;simp only[bi,bc] at hb2;rw[<- hb2];simp only[go_sem,ZH,AQ];try exact AIG
