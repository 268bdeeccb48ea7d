/- A part. -/
import Derived.Test.YtdagmocgcanknaaGreatDa
import Derived.Test.YtdagmocgcanknaaGreatTy
set_option linter.unusedSimpArgs false
set_option linter.unusedVariables false
set_option maxHeartbeats 1000000
set_option maxRecDepth 10000
open Go.Proofs.Tryz
namespace Go.Proofs.YtdagmocgcanknaaGreat
open Go.Vm
theorem jo {α:Type} (g:Int->α->Int) (n0:Int) (l:List α) {k:Nat} (h:k<l.length):(l.take (k+1)).foldl g n0=g ((l.take k).foldl g n0) l[k]:=by rw[aap h,abu]; rfl
def QO (l:List DBuf):Int:=l.foldl (fun n t=>if(t.kind==0)=true then IntKind.i64.wrap (n+1) else n) 0
theorem nS (l:List DBuf):Ctr prog 71 [.c (.sl (l.map DBuf.c))] [.val (.c (.v (.int .i64 (QO l))))]:=by
 refine CM call71 func71 ntmps71 results71 fun hw=>?_;have hlen:l.length<=9223372036854775807:=by have:=hw.1.1; simpa [Go.maxLen] using this
 simp only[go_sem,aa];refine ABf 0 [0,3,4] (A:=Nat) (fun k=>⟨20,[(0,.c (.sl (l.map DBuf.c))),(3,.c (.v (.int .i64 ((l.take k).foldl (fun n t=>if(t.kind==0)=true then IntKind.i64.wrap (n+1) else n) (0))))),(4,.c (.v (.int .i64 k)))],[]⟩) (fun k=>k<=l.length) (fun k=>l.length-k) 0 ⟨⟨rfl,rfl⟩,rfl,aq _⟩ ?_;exact AJ7
theorem nT (l:List DBuf):Ctr prog 104 [.c (.sl (l.map DBuf.c))] [.val (.c (.v (.int .i64 (QO l))))]:=by
 refine CM call104 func104 ntmps104 results104 fun hw=>?_;have hlen:l.length<=9223372036854775807:=by have:=hw.1.1; simpa [Go.maxLen] using this
 simp only[go_sem,aa];refine ABf 0 [0,3,6,7,8] (A:=Nat) (fun k=>⟨19,[(0,.c (.sl (l.map DBuf.c))),(3,.c (.v (.int .i64 ((l.take k).foldl (fun n t=>if(t.kind==0)=true then IntKind.i64.wrap (n+1) else n) (0))))),(6,.c (.sl (l.map DBuf.c))),(7,.c (.v (.int .i64 l.length))),(8,.c (.v (.int .i64 k)))],[]⟩) (fun k=>k<=l.length) (fun k=>l.length-k) 0 ⟨⟨rfl,rfl⟩,rfl,aq _⟩ ?_;exact AJ7
