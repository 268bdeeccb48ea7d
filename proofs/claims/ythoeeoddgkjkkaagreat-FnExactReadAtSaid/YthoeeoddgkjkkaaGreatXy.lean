/- Walks: what is read at a moment. -/
import Derived.Test.YthoeeoddgkjkkaaGreatXe
import Derived.Test.YthoeeoddgkjkkaaGreatAi
import Derived.Test.YthoeeoddgkjkkaaGreatXk
namespace Go.Proofs.YthoeeoddgkjkkaaGreat
set_option linter.unusedSimpArgs false
set_option linter.unusedVariables false
open Go.Vm
set_option maxHeartbeats 2000000
set_option maxRecDepth 10000
theorem Xi (w:DWorld) (q:DQuery) (ts:Int) (hf:Cb w) (hq:Dy q):Ctr Tryz.prog 30 [.agg w.c,.agg q.c,.c (.v (.int .i64 (ts)))] [GR q (Eb w ts)]:=by
 refine Ctr.mk Tryz.call30 Tryz.func30 rfl mixed Tryz.ntmps30 Tryz.results30 (by kernel_rfl) rfl fun hw=>?_
 simp only[go_sem]
 have han:=WF q (Eb w ts) hq (L8 w ts hf)
 have hta:=(U_ w ts hf).valO (Bg _)
 unfold GR at han ⊢
 generalize Eb w ts=l at han hta ⊢
 rcases k1:q.kind==1 with _ | _<;>rw[k1] at han<;>simp only[if_true,if_false,Bool.false_eq_true] at han ⊢
 ·generalize answer q l=r at han ⊢
  refine DrawK.mkE ?_
  simp only[go_sem]
  refine CallE.mk _ (by simpa only[go_sem] using hta) ?_
  simp only[go_sem]
  refine CallE.mk _ (by simpa only[go_sem] using han) ?_
  simp only[go_sem]
  try simp[AU,AC]
 ·generalize answer q l=r at han ⊢
  refine DrawK.mkE ?_
  simp only[go_sem]
  refine CallE.mk _ (by simpa only[go_sem] using hta) ?_
  simp only[go_sem]
  refine CallE.mk _ (by simpa only[go_sem] using han) ?_
  simp only[go_sem,AX]
  try simp[AU,AC]
theorem Xj (w:DWorld) (q:DQuery) (ts:Int) (hf:Cb w) (hq:Dy q):Ctr Tryz.prog 28 [.agg w.c,.agg q.c,.c (.v (.int .i64 (ts)))] [GR q (Eb w ts)]:=by
 refine Ctr.mk Tryz.call28 Tryz.func28 rfl mixed Tryz.ntmps28 Tryz.results28 (by kernel_rfl) rfl fun hw=>?_
 simp only[go_sem]
 have han:=WG q (Eb w ts) hq (L8 w ts hf)
 have hta:=(VA w ts hf).valO (Bg _)
 unfold GR at han ⊢
 generalize Eb w ts=l at han hta ⊢
 rcases k1:q.kind==1 with _ | _<;>rw[k1] at han<;>simp only[if_true,if_false,Bool.false_eq_true] at han ⊢
 ·generalize answer q l=r at han ⊢
  refine DrawK.mkE ?_
  simp only[go_sem]
  refine CallE.mk _ (by simpa only[go_sem] using hta) ?_
  simp only[go_sem]
  refine CallE.mk _ (by simpa only[go_sem] using han) ?_
  simp only[go_sem]
  try simp[AU,AC]
 ·generalize answer q l=r at han ⊢
  refine DrawK.mkE ?_
  simp only[go_sem]
  refine CallE.mk _ (by simpa only[go_sem] using hta) ?_
  simp only[go_sem]
  refine CallE.mk _ (by simpa only[go_sem] using han) ?_
  simp only[go_sem,AX]
  try simp[AU,AC]
end Go.Proofs.YthoeeoddgkjkkaaGreat
/- Marks of results. -/
namespace Go.Proofs.YthoeeoddgkjkkaaGreat
set_option linter.unusedSimpArgs false
set_option linter.unusedVariables false
open Go.Vm
set_option maxHeartbeats 2000000
set_option maxRecDepth 10000
def Ph (r:DResult):DResult:=⟨Oj mkRow FU 1 r.rows,r.n,r.has,r.v⟩
def UL (r:DResult):Int:=J4 FU 1 r.rows
theorem VB (r:DResult) (hl:Hw BI r.rows):MCtr Tryz.prog 34 true r.o [.c (.v (.int .i64 (1)))] (fun cl' rs=>cl'=(Ph r).o∧rs = [.c (.v (.int .i64 (UL r)))]):=by
 have hx:∀ x∈r.rows,x.l.length≤1048576:=fun x hx=>by have:=hl.2 x hx; rw[Bf] at this; exact this.1
 have hb:=QZ _ hl.1 hx
 refine MCtr.mk (fn:=Tryz.f34) Tryz.call34 Tryz.func34 rfl mixed Tryz.ntmps34 Tryz.results34 (by kernel_rfl) rfl (.inl rfl) fun us hw0 hw=>?_
 simp only[go_sem]
 refine MutK.mk false (zs:=[.ref 0]) (YO r.rows 1 (by omega) hl.1 hx hb) rfl ⟨rfl,rfl,rfl,rfl,AX _,by simp,trivial⟩ rfl (.inr rfl) fun cl' rs hM=>?_
 obtain⟨rfl,rfl⟩:=hM
 refine⟨⟨rfl,⟨rfl,rfl⟩,trivial⟩, ?_⟩
 simp only[go_sem]
 exact⟨[.ref 0,.v (.int .i64 r.n),.v (.bool r.has),.v (.int .i64 r.v.ty),.v (.int .i64 r.v.n),.v (.string r.v.s)],(Ph r).o,[.c (.v (.int .i64 (UL r)))],rfl,.inl rfl,⟨rfl,rfl,rfl,rfl,AX _,by simp,rfl,rfl,rfl,rfl,rfl,rfl,rfl,rfl,rfl,rfl,trivial⟩,Qo _,rfl,rfl,rfl,rfl⟩
theorem Xk (k:Int):Ctr Tryz.prog 23 [.c (.sl []),.c (.v (.int .i64 (k)))] [.val (.c (.v (.int .i64 (k))))]:=by
 refine Ctr.mk Tryz.call23 Tryz.func23 rfl mixed Tryz.ntmps23 Tryz.results23 (by kernel_rfl) rfl fun hw=>?_
 have e0:decide ((0:Int)<((0:Nat):Int))=false:=rfl
 simp only[go_sem]
 refine LoopU.mk 0 (A:=Unit) (fun _=>[]) (fun _=>[]) (fun _=>True) (fun _=>0) () ⟨⟨rfl,rfl⟩,rfl,trivial⟩ ?_
 rintro⟨⟩ _
 simp only[go_sem,e0]
theorem VC (r:DResult) (h:r.rows = []):Ctr Tryz.prog 34 [.agg r.c,.c (.v (.int .i64 (1)))] [.val (.c (.v (.int .i64 (1))))]:=by
 obtain⟨rows,n,has,v⟩:=r
 subst h
 refine Ctr.mk Tryz.call34 Tryz.func34 rfl mixed Tryz.ntmps34 Tryz.results34 (by kernel_rfl) rfl fun hw=>?_
 simp only[go_sem,List.map_nil]
 refine CallK.mk _ (Xk 1) fun _=>?_
 simp only[go_sem]
theorem IM (r:DResult) (hl:Hw BI r.rows):Ctr Tryz.prog 35 [.agg (Ph r).c,.c (.v (.int .i64 (1)))] [.val (.c (.v (.int .i64 (UL r))))]:=by
 have hx:∀ x∈r.rows,x.l.length≤1048576:=fun x hx=>by have:=hl.2 x hx; rw[Bf] at this; exact this.1
 have hb:=QZ _ hl.1 hx
 have hc:=LG Jk r.rows 1
 have e2:decide (J4 FU 1 r.rows<0)=false:=by simp; omega
 refine Ctr.mk Tryz.call35 Tryz.func35 rfl mixed Tryz.ntmps35 Tryz.results35 (by kernel_rfl) rfl fun hw=>?_
 simp only[go_sem,Ph]
 refine CallK.mk _ (U0 r.rows 1 (by omega) hl.1 hx hb) fun _=>?_
 simp only[go_sem,e2,UL]
end Go.Proofs.YthoeeoddgkjkkaaGreat
/- The law's walk: what is read at a moment. -/
namespace Go.Proofs.YthoeeoddgkjkkaaGreat
set_option linter.unusedSimpArgs false
set_option linter.unusedVariables false
open Go.Vm
set_option maxHeartbeats 4000000
set_option maxRecDepth 10000
theorem m_ {r:DRow} {cols:List Int} {v:DVal} (h:v∈NL r cols):v∈r.l:=by
 unfold NL at h
 obtain⟨k,_,hk⟩:=List.mem_filterMap.1 h
 split at hk
 ·exact List.mem_of_getElem? hk
 ·cases hk
theorem qB (q:DQuery) (l:List DRow) (hq:Dy q) (hl:Hw BI l):Hw BI (answer q l).rows:=by
 have hn:Hw BI ([]:List DRow):=⟨Nat.zero_le _,fun x hx=>by cases hx⟩
 have hqo:q.out.length≤1048576:=by rw[Ej] at hq; exact hq.2
 unfold answer
 split
 ·refine⟨by simp only[List.length_map]; exact(MJ q l hl).1,fun x hx=>?_⟩
  obtain⟨r,hr,rfl⟩:=List.mem_map.1 hx
  have hfr:=(MJ q l hl).2 r hr
  rw[Bf] at hfr ⊢
  exact⟨Nat.le_trans (List.length_filterMap_le _ _) hqo,fun v hv=>hfr.2 v (m_ hv)⟩
 ·split
  ·exact hn
  ·split
   ·exact hn
   ·split
    ·exact hn
    ·split<;>exact hn
theorem wV {q:DQuery} {l:List DRow} (h:(q.kind==1)=false):(answer q l).rows = []:=by
 unfold answer
 rw[h,if_neg (by simp)]
 split
 ·rfl
 ·split
  ·rfl
  ·split
   ·rfl
   ·split<;>rfl
theorem UM (w:DWorld) (q:DQuery) (ts:Int):Ctr Tryz.prog 8 [.agg w.c,.agg q.c,.c (.v (.int .i64 (ts)))] [.val (.c (.v (.bool (true))))]:=by
 refine Ctr.mk Tryz.call8 Tryz.func8 rfl mixed Tryz.ntmps8 Tryz.results8 (by kernel_rfl) rfl fun hw=>?_
 simp only[go_sem]
 refine CallK.mk _ (by simpa only[go_sem] using WW w 1048576 (by omega)) fun _=>?_
 simp only[go_sem]
 refine cndC.mk (fun h=>?_) (fun h=>?_)
 ·simp only[go_sem]
 have h00:0≤Fh w 1048576:=by simp at h; omega
 obtain⟨hf,hle⟩:=YU w 1048576 h00 (by omega)
 simp only[go_sem]
 refine CallK.mk _ (by simpa only[go_sem] using J_ q (Fh w 1048576) h00) fun _=>?_
 simp only[go_sem]
 refine cndC.mk (fun h=>?_) (fun h=>?_)
 ·simp only[go_sem]
 have h01:0≤BH q (Fh w 1048576):=by simp at h; omega
 obtain⟨hfq,hle2⟩:=H5 q (Fh w 1048576) h01 (by omega)
 have hfit:=qB q (Eb w ts) hfq (L8 w ts hf)
 have hsp:=Xj w q ts hf hfq
 have hip:=Xi w q ts hf hfq
 have hx:∀ x∈(answer q (Eb w ts)).rows,x.l.length≤1048576:=fun x hx=>by have:=hfit.2 x hx; rw[Bf] at this; exact this.1
 have hck:=QZ _ hfit.1 hx
 have hck0:=LG Jk (answer q (Eb w ts)).rows 1
 have hno:=wV (q:=q) (l:=Eb w ts)
 unfold GR at hsp hip
 generalize answer q (Eb w ts)=r at hfit hsp hip hx hck hck0 hno
 have e0:∀ b:Bool,(!(b==b))=false:=fun b=>by cases b<;>rfl
 simp only[go_sem]
 rcases k1:q.kind==1 with _ | _<;>rw[k1] at hsp hip hno<;>simp only[if_true,if_false,Bool.false_eq_true] at hsp hip
 ·obtain⟨rows,rn,rh,rv⟩:=r
  have hno':rows = []:=hno rfl
  subst hno'
  refine DrawK.mkA 6 5 (by kernel_rfl) ?_
  simp only[go_sem,List.map_nil]
  refine CallE.mk _ (by simpa only[go_sem] using Fj w hf) ?_
  simp only[go_sem,List.map_nil]
  refine CallE.mk _ (by simpa only[go_sem] using EG q hfq) ?_
  simp only[go_sem,List.map_nil]
  refine CallE.mk _ (by simpa only[go_sem] using hsp) ?_
  simp only[go_sem,List.map_nil]
  refine CallK.mk _ (by simpa only[go_sem] using TQ w hf) fun _=>?_
  simp only[go_sem,List.map_nil]
  refine CallK.mk _ (by simpa only[go_sem] using KA q hfq) fun _=>?_
  simp only[go_sem,List.map_nil]
  refine BorK.mk (args:=[.agg w.c,.agg q.c,.c (.v (.int .i64 (ts)))]) [.val (.agg (⟨[],rn,rh,rv⟩:DResult).c)] (by simp only[FM,EI,EH,Bg,Ec,FN,GU,D9,FW,go_sem]) rfl hip fun _=>?_
  simp only[go_sem,List.map_nil]
  refine BorK.mk (args:=[.agg (⟨[],rn,rh,rv⟩:DResult).c,.agg (⟨[],rn,rh,rv⟩:DResult).c]) _ (by simp only[FM,EI,EH,Bg,Ec,FN,GU,D9,FW,go_sem]) rfl (EU ⟨[],rn,rh,rv⟩) fun _=>?_
  simp only[go_sem,e0]
  refine DrawK.mk ?_
  simp only[go_sem,List.map_nil]
  refine CallF.mk _ (by simpa only[go_sem] using Fj w hf) ?_
  simp only[go_sem,List.map_nil]
  refine BorF.mk (args:=[.agg w.c,.agg w.c]) _ (by simp only[FM,EI,EH,Bg,Ec,FN,GU,D9,FW,go_sem]) rfl (Ox w) ?_
  simp only[go_sem,List.map_nil]
  refine DrawK.mk ?_
  simp only[go_sem,List.map_nil]
  refine CallF.mk _ (by simpa only[go_sem] using EG q hfq) ?_
  simp only[go_sem,List.map_nil]
  refine BorF.mk (args:=[.agg q.c,.agg q.c]) _ (by simp only[FM,EI,EH,Bg,Ec,FN,GU,D9,FW,go_sem]) rfl (IU q) ?_
  simp only[go_sem,List.map_nil]
  refine MutK.mk true (zs:=[.ref 3,.v (.int .i64 w.c0.slots),.v (.int .i64 w.c0.bufs),.v (.int .i64 w.time),.v (.int .i64 w.t),.v (.int .i64 w.e),.v (.int .i64 w.d.ver),.ref 4,.ref 5,.ref 6,.ref 7,.ref 8,.ref 9,.ref 10])
   (cl:=[.ow 3 1 (w.c0.cols.map intC),.v (.int .i64 w.c0.slots),.v (.int .i64 w.c0.bufs),.v (.int .i64 w.time),.v (.int .i64 w.t),.v (.int .i64 w.e),.v (.int .i64 w.d.ver),.ow 56 5 (w.d.l.map DRef.c),.ow 101 5 (w.b.map DBuf.o),.ow 3 1 (w.m.map intC),.ow 168 3 (w.x.map DDead.c),.ow 3 1 (w.p.map intC),.ow 172 25 (w.tasks.map DTask.o),.ow 175 25 (w.deeds.map DDeed.o)])
   (by simpa only[go_sem] using Oq w 1 (by omega) 1048576 h00 (by omega) (by omega)) rfl
   ⟨rfl,rfl,rfl,rfl,Bj _,by simp,rfl,rfl,rfl,rfl,rfl,rfl,rfl,rfl,rfl,rfl,rfl,rfl,rfl,rfl,rfl,rfl,QI _,by simp,rfl,rfl,rfl,rfl,Wv _,by simp,rfl,rfl,rfl,rfl,Bj _,by simp,rfl,rfl,rfl,rfl,Wx _,by simp,rfl,rfl,rfl,rfl,Bj _,by simp,rfl,rfl,rfl,rfl,SH _,by simp,rfl,rfl,rfl,rfl,SI _,by simp,trivial⟩ rfl (.inl rfl) fun cl' rs hM=>?_
  obtain⟨R0,R1,R2,R3,R4,R5,R6,R7,m,rfl,rfl,g1,g2,_⟩:=hM
  refine⟨⟨rfl,⟨rfl,rfl⟩,rfl,rfl,rfl,rfl,rfl,rfl,⟨rfl,rfl⟩,⟨rfl,rfl⟩,⟨rfl,rfl⟩,⟨rfl,rfl⟩,⟨rfl,rfl⟩,⟨rfl,rfl⟩,⟨rfl,rfl⟩,trivial⟩, ?_⟩
  simp only[go_sem]
  refine MutK.mk true (zs:=[.v (.int .i64 q.kind),.v (.int .i64 q.p.kind),.v (.int .i64 q.p.col),.v (.int .i64 q.p.op),.v (.int .i64 q.p.v.ty),.v (.int .i64 q.p.v.n),.v (.string q.p.v.s),.ref 12,.v (.int .i64 q.col),.ref 13])
   (cl:=[.v (.int .i64 q.kind),.v (.int .i64 q.p.kind),.v (.int .i64 q.p.col),.v (.int .i64 q.p.op),.v (.int .i64 q.p.v.ty),.v (.int .i64 q.p.v.n),.v (.string q.p.v.s),.ow 78 7 (q.p.l.map DPred.o),.v (.int .i64 q.col),.ow 3 1 (q.out.map intC)])
   (by simpa only[go_sem] using Oo q m (by omega) (Fh w 1048576) h01 (by omega) (by omega)) rfl
   ⟨rfl,rfl,rfl,rfl,rfl,rfl,rfl,rfl,rfl,rfl,rfl,rfl,rfl,rfl,rfl,rfl,rfl,rfl,Gu _,by simp,rfl,rfl,rfl,rfl,rfl,rfl,Bj _,by simp,trivial⟩ rfl (.inl rfl) fun cl' rs hM=>?_
  obtain⟨S0,S1,m2,rfl,rfl,g3,g4,_⟩:=hM
  refine⟨⟨rfl,rfl,rfl,rfl,rfl,rfl,rfl,rfl,⟨rfl,rfl⟩,rfl,⟨rfl,rfl⟩,trivial⟩, ?_⟩
  have hm0:decide (m2<0)=false:=by simp; omega
  simp only[go_sem,hm0]
  refine BorK.mk (args:=[.agg (⟨[],rn,rh,rv⟩:DResult).c,.agg (⟨[],rn,rh,rv⟩:DResult).c]) _ (by simp only[FM,EI,EH,Bg,Ec,FN,GU,D9,FW,go_sem]) rfl (EU ⟨[],rn,rh,rv⟩) fun _=>?_
  simp only[go_sem,List.map_nil,hm0,e0]
  refine CallK.mk [.val (.c (.v (.int .i64 (1))))] (by simpa only[go_sem,List.map_nil] using VC ⟨[],rn,rh,rv⟩ rfl) fun _=>?_
  simp only[go_sem]
  have e1:decide ((1:Int)<0)=false:=rfl
  have hh:=IM ⟨[],rn,rh,rv⟩ hfit
  simp only[Ph,UL,Oj,J4] at hh
  refine CallK.mk _ (by simpa only[go_sem,List.map_nil] using hh) fun _=>?_
  simp only[go_sem,e1,bne_self_eq_false]
  refine DrawK.mkA 6 5 (by kernel_rfl) ?_
  simp only[go_sem]
  refine CallE.mk _ (by simpa only[go_sem] using Fj w hf) ?_
  simp only[go_sem]
  refine CallE.mk _ (by simpa only[go_sem] using EG q hfq) ?_
  simp only[go_sem]
  refine CallE.mk _ (by simpa only[go_sem] using hip) ?_
  simp only[go_sem,List.map_nil]
  refine CallK.mk _ (by simpa only[go_sem,List.map_nil] using EU ⟨[],rn,rh,rv⟩) fun _=>?_
  simp only[go_sem,List.map_nil,e0]
  refine CallK.mk _ (by simpa only[go_sem,List.map_nil] using hh) fun _=>?_
  simp only[go_sem,e1,bne_self_eq_false]
 ·refine DrawK.mkA 6 5 (by kernel_rfl) ?_
  simp only[go_sem]
  refine CallE.mk _ (by simpa only[go_sem] using Fj w hf) ?_
  simp only[go_sem]
  refine CallE.mk _ (by simpa only[go_sem] using EG q hfq) ?_
  simp only[go_sem]
  refine CallE.mk _ (by simpa only[go_sem] using hsp) ?_
  simp only[go_sem]
  refine CallK.mk _ (by simpa only[go_sem] using TQ w hf) fun _=>?_
  simp only[go_sem]
  refine CallK.mk _ (by simpa only[go_sem] using KA q hfq) fun _=>?_
  simp only[go_sem]
  refine BorK.mk (args:=[.agg w.c,.agg q.c,.c (.v (.int .i64 (ts)))]) [.agg r.o] (by simp only[FM,EI,EH,Bg,Ec,FN,GU,D9,FW,go_sem]) (by simp only[List.all_cons,K_,Qo,List.all_nil,Bool.and_true]) hip fun _=>?_
  simp only[go_sem]
  refine BorK.mk (args:=[.agg r.c,.agg r.c]) _ (by simp only[FM,EI,EH,Bg,Ec,FN,GU,D9,FW,go_sem]) rfl (EU r) fun _=>?_
  simp only[go_sem,e0]
  refine DrawK.mk ?_
  simp only[go_sem]
  refine CallF.mk _ (by simpa only[go_sem] using Fj w hf) ?_
  simp only[go_sem]
  refine BorF.mk (args:=[.agg w.c,.agg w.c]) _ (by simp only[FM,EI,EH,Bg,Ec,FN,GU,D9,FW,go_sem]) rfl (Ox w) ?_
  simp only[go_sem]
  refine DrawK.mk ?_
  simp only[go_sem]
  refine CallF.mk _ (by simpa only[go_sem] using EG q hfq) ?_
  simp only[go_sem]
  refine BorF.mk (args:=[.agg q.c,.agg q.c]) _ (by simp only[FM,EI,EH,Bg,Ec,FN,GU,D9,FW,go_sem]) rfl (IU q) ?_
  simp only[go_sem]
  refine MutK.mk true (zs:=[.ref 4,.v (.int .i64 w.c0.slots),.v (.int .i64 w.c0.bufs),.v (.int .i64 w.time),.v (.int .i64 w.t),.v (.int .i64 w.e),.v (.int .i64 w.d.ver),.ref 5,.ref 6,.ref 7,.ref 8,.ref 9,.ref 10,.ref 11])
   (cl:=[.ow 3 1 (w.c0.cols.map intC),.v (.int .i64 w.c0.slots),.v (.int .i64 w.c0.bufs),.v (.int .i64 w.time),.v (.int .i64 w.t),.v (.int .i64 w.e),.v (.int .i64 w.d.ver),.ow 56 5 (w.d.l.map DRef.c),.ow 101 5 (w.b.map DBuf.o),.ow 3 1 (w.m.map intC),.ow 168 3 (w.x.map DDead.c),.ow 3 1 (w.p.map intC),.ow 172 25 (w.tasks.map DTask.o),.ow 175 25 (w.deeds.map DDeed.o)])
   (by simpa only[go_sem] using Oq w 1 (by omega) 1048576 h00 (by omega) (by omega)) rfl
   ⟨rfl,rfl,rfl,rfl,Bj _,by simp,rfl,rfl,rfl,rfl,rfl,rfl,rfl,rfl,rfl,rfl,rfl,rfl,rfl,rfl,rfl,rfl,QI _,by simp,rfl,rfl,rfl,rfl,Wv _,by simp,rfl,rfl,rfl,rfl,Bj _,by simp,rfl,rfl,rfl,rfl,Wx _,by simp,rfl,rfl,rfl,rfl,Bj _,by simp,rfl,rfl,rfl,rfl,SH _,by simp,rfl,rfl,rfl,rfl,SI _,by simp,trivial⟩ rfl (.inl rfl) fun cl' rs hM=>?_
  obtain⟨R0,R1,R2,R3,R4,R5,R6,R7,m,rfl,rfl,g1,g2,_⟩:=hM
  refine⟨⟨rfl,⟨rfl,rfl⟩,rfl,rfl,rfl,rfl,rfl,rfl,⟨rfl,rfl⟩,⟨rfl,rfl⟩,⟨rfl,rfl⟩,⟨rfl,rfl⟩,⟨rfl,rfl⟩,⟨rfl,rfl⟩,⟨rfl,rfl⟩,trivial⟩, ?_⟩
  simp only[go_sem]
  refine MutK.mk true (zs:=[.v (.int .i64 q.kind),.v (.int .i64 q.p.kind),.v (.int .i64 q.p.col),.v (.int .i64 q.p.op),.v (.int .i64 q.p.v.ty),.v (.int .i64 q.p.v.n),.v (.string q.p.v.s),.ref 13,.v (.int .i64 q.col),.ref 14])
   (cl:=[.v (.int .i64 q.kind),.v (.int .i64 q.p.kind),.v (.int .i64 q.p.col),.v (.int .i64 q.p.op),.v (.int .i64 q.p.v.ty),.v (.int .i64 q.p.v.n),.v (.string q.p.v.s),.ow 78 7 (q.p.l.map DPred.o),.v (.int .i64 q.col),.ow 3 1 (q.out.map intC)])
   (by simpa only[go_sem] using Oo q m (by omega) (Fh w 1048576) h01 (by omega) (by omega)) rfl
   ⟨rfl,rfl,rfl,rfl,rfl,rfl,rfl,rfl,rfl,rfl,rfl,rfl,rfl,rfl,rfl,rfl,rfl,rfl,Gu _,by simp,rfl,rfl,rfl,rfl,rfl,rfl,Bj _,by simp,trivial⟩ rfl (.inl rfl) fun cl' rs hM=>?_
  obtain⟨S0,S1,m2,rfl,rfl,g3,g4,_⟩:=hM
  refine⟨⟨rfl,rfl,rfl,rfl,rfl,rfl,rfl,rfl,⟨rfl,rfl⟩,rfl,⟨rfl,rfl⟩,trivial⟩, ?_⟩
  have hm0:decide (m2<0)=false:=by simp; omega
  simp only[go_sem,hm0]
  refine BorK.mk (args:=[.agg r.c,.agg r.c]) _ (by simp only[FM,EI,EH,Bg,Ec,FN,GU,D9,FW,go_sem]) rfl (EU r) fun _=>?_
  simp only[go_sem,hm0,e0]
  refine MutK.mk true (zs:=[.ref 16,.v (.int .i64 r.n),.v (.bool r.has),.v (.int .i64 r.v.ty),.v (.int .i64 r.v.n),.v (.string r.v.s)]) (cl:=[.ow 121 2 (r.rows.map DRow.o),.v (.int .i64 r.n),.v (.bool r.has),.v (.int .i64 r.v.ty),.v (.int .i64 r.v.n),.v (.string r.v.s)])
   (by simpa only[go_sem] using VB r hfit) rfl
   ⟨rfl,rfl,rfl,rfl,AX _,by simp,rfl,rfl,rfl,rfl,rfl,rfl,rfl,rfl,rfl,rfl,trivial⟩ rfl (.inl rfl) fun cl' rs hM=>?_
  obtain⟨rfl,rfl⟩:=hM
  refine⟨⟨rfl,⟨rfl,rfl⟩,rfl,rfl,rfl,rfl,rfl,trivial⟩, ?_⟩
  have hn0:decide (UL r<0)=false:=by unfold UL; simp; omega
  simp only[go_sem,hn0]
  refine BorK.mk (args:=[.agg (Ph r).c,.c (.v (.int .i64 (1)))]) _ (by simp only[FM,EI,EH,Bg,Ec,FN,GU,D9,FW,go_sem,Ph]) rfl (IM r hfit) fun _=>?_
  simp only[go_sem,hn0,bne_self_eq_false]
  refine DrawK.mkA 6 5 (by kernel_rfl) ?_
  simp only[go_sem]
  refine CallE.mk _ (by simpa only[go_sem] using Fj w hf) ?_
  simp only[go_sem]
  refine CallE.mk _ (by simpa only[go_sem] using EG q hfq) ?_
  simp only[go_sem]
  refine CallE.mk _ (by simpa only[go_sem] using hip) ?_
  simp only[go_sem,AX]
  refine BorK.mk (args:=[.agg r.c,.agg r.c]) _ (by simp only[FM,EI,EH,Bg,Ec,FN,GU,D9,FW,go_sem]) rfl (EU r) fun _=>?_
  simp only[go_sem,hn0,e0]
  refine BorK.mk (args:=[.agg (Ph r).c,.c (.v (.int .i64 (1)))]) _ (by simp only[FM,EI,EH,Bg,Ec,FN,GU,D9,FW,go_sem,Ph]) rfl (IM r hfit) fun _=>?_
  simp only[go_sem,hn0,bne_self_eq_false]
end Go.Proofs.YthoeeoddgkjkkaaGreat
