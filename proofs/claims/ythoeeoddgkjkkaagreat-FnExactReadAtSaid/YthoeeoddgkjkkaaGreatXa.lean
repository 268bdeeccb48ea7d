/- Walks: what lies in a buffer: chunks and groups. -/
import Derived.Test.YthoeeoddgkjkkaaGreatYs
namespace Go.Proofs.YthoeeoddgkjkkaaGreat
set_option linter.unusedSimpArgs false
set_option linter.unusedVariables false
open Go.Vm
set_option maxHeartbeats 2000000
set_option maxRecDepth 10000
theorem Lt (a b c:Int):Ctr Tryz.prog 98 [.c (.v (.int .i64 a)),.c (.v (.int .i64 b)),.c (.v (.int .i64 c))] [.val (.c (.v (.bool (decide (a≥b)&&decide (a≤c)))))]:=by
 refine Ctr.mk Tryz.call98 Tryz.func98 rfl mixed Tryz.ntmps98 Tryz.results98 (by kernel_rfl) rfl fun hw=>?_
 rcases h1:decide (a≥b) with _ | _<;>simp only[go_sem,h1]<;>simp only[Bool.false_and,Bool.true_and]
def came (n ts:Int):Bool:=decide (n≥1)&&decide (n≤ts)
theorem KN (n ts:Int):Ctr Tryz.prog 99 [.c (.v (.int .i64 n)),.c (.v (.int .i64 ts))] [.val (.c (.v (.bool (came n ts))))]:=by
 refine Ctr.mk Tryz.call99 Tryz.func99 rfl mixed Tryz.ntmps99 Tryz.results99 (by kernel_rfl) rfl fun hw=>?_
 simp only[go_sem]
 refine CallK.mk _ (Lt n 1 ts) fun _=>?_
 simp only[go_sem,came]
theorem KO (n ts:Int):Ctr Tryz.prog 106 [.c (.v (.int .i64 n)),.c (.v (.int .i64 ts))] [.val (.c (.v (.bool (came n ts))))]:=by
 refine Ctr.mk Tryz.call106 Tryz.func106 rfl mixed Tryz.ntmps106 Tryz.results106 (by kernel_rfl) rfl fun hw=>?_
 rcases h1:decide (n≥1) with _ | _<;>simp only[go_sem,h1]<;>simp only[came,h1,Bool.false_and,Bool.true_and]
def UG (w:DWorld) (n:Int):Option DBuf:=if 0≤n then w.b[n.toNat]? else none
def Lu (b:DBuf) (r:DRef):Bool:=(b.gen==r.gen)&&((b.kind==r.kind)&&((r.kind != 1)||((b.c0.l.length:Int)==r.many)))
def there (w:DWorld) (r:DRef):Bool:=match UG w r.buf with
 | none=>false
 | some b=>Lu b r
theorem Gm (w:DWorld) (n:Int):(∃ (k:Nat) (h:k<w.b.length),n=k∧UG w n=some w.b[k])∨((n<0∨(w.b.length:Int)≤n)∧UG w n=none):=by
 unfold UG
 by_cases h0:0≤n
 ·obtain⟨k,rfl⟩:=Int.eq_ofNat_of_zero_le h0
  by_cases h1:k<w.b.length
  ·exact .inl ⟨k,h1,rfl,by simp[h1]⟩
  ·refine .inr ⟨.inr (by omega), ?_⟩
   simp only[h0,if_true,Int.toNat_natCast]
   exact List.getElem?_eq_none (by omega)
 ·exact .inr ⟨.inl (by omega),by simp[h0]⟩
theorem Zk (w:DWorld) (r:DRef):Ctr Tryz.prog 43 [.agg w.c,.agg r.c] [.val (.c (.v (.bool (there w r))))]:=by
 refine Ctr.mk Tryz.call43 Tryz.func43 rfl mixed Tryz.ntmps43 Tryz.results43 (by kernel_rfl) rfl fun hw=>?_
 have hlenb:w.b.length≤9223372036854775807:=by have:=hw.1.2.2.2.2.2.2.2.2.1.1; simpa [Go.maxLen] using this
 simp only[go_sem,List.length_map]
 try refine DrawK.mk ?_
 try simp only[go_sem,List.length_map]
 first | refine CallF.mk _ (Lt r.buf 0 _) ?_ | refine CallK.mk _ (Lt r.buf 0 _) fun _=>?_
 simp only[go_sem,List.length_map]
 rw[wrap_i64 (n:=(w.b.length:Int)-1) (by omega) (by omega)]
 rcases Gm w r.buf with ⟨k,hk,hb,hat⟩ | ⟨hb,hat⟩
 ·have e0:decide ((k:Int)≥0)=true:=by simp
  have e1:decide ((k:Int)≤(w.b.length:Int)-1)=true:=by simp; omega
  have hth:there w r=Lu w.b[k] r:=by simp only[there,hat]
  rw[hth]
  rcases h1:w.b[k].gen != r.gen with _ | _<;>rcases h2:w.b[k].kind != r.kind with _ | _<;>rcases h3:r.kind != 1 with _ | _ <;>
   simp only[go_sem,List.length_map,hb,e0,e1,AA _ hk,hk,h1,h2,h3] <;>
   simp only[bne_iff_ne,bne_eq_false_iff_eq,ne_eq,Bool.not_eq_true',beq_eq_false_iff_ne] at h1 h2 h3 <;>
   first | (simp[Lu,h1,h2,h3]; done) | (simp[Lu,h1,h2,h3]; intro hh; exact absurd (hh.trans h3.symm) h2)
 ·have e1:(decide (r.buf≥0)&&decide (r.buf≤(w.b.length:Int)-1))=false:=by
   rw[Bool.and_eq_false_iff]
   by_cases h0:0≤r.buf
   ·right; simp; omega
   ·left; simp; omega
  have hth:there w r=false:=by simp only[there,hat]
  simp only[go_sem,List.length_map,e1,hth]
theorem Ja (w:DWorld) (r:DRef):Ctr Tryz.prog 55 [.agg w.c,.agg r.c] [.val (.c (.v (.bool (there w r))))]:=by
 refine Ctr.mk Tryz.call55 Tryz.func55 rfl mixed Tryz.ntmps55 Tryz.results55 (by kernel_rfl) rfl fun hw=>?_
 rcases Gm w r.buf with ⟨k,hk,hb,hat⟩ | ⟨hb,hat⟩
 ·have e1:decide (r.buf<0)=false:=by rw[hb]; simp
  have e2:decide ((k:Int)≥w.b.length)=false:=by simp; omega
  have e3:decide ((k:Int)<0)=false:=by simp
  have hth:there w r=Lu w.b[k] r:=by simp only[there,hat]
  rw[hth]
  rcases h1:w.b[k].gen==r.gen with _ | _<;>rcases h2:w.b[k].kind==r.kind with _ | _<;>rcases h3:r.kind != 1 with _ | _ <;>
   simp only[go_sem,List.length_map,hb,e2,e3,AA _ hk,hk,h1,h2,h3] <;>
   simp only[Lu,h1,h2,h3,Bool.true_and,Bool.false_and,Bool.true_or,Bool.false_or]
 ·have hth:there w r=false:=by simp only[there,hat]
  rcases h0:decide (r.buf<0) with _ | _
  ·have e2:decide (r.buf≥(w.b.length:Int))=true:=by simp at h0 ⊢; omega
   simp only[go_sem,List.length_map,h0,e2,hth]
  ·simp only[go_sem,List.length_map,h0,hth]
def KP:DChunk:=⟨0,[]⟩
def Dc (w:DWorld) (r:DRef):DChunk×Bool:=match UG w r.buf with
 | none=>(KP,false)
 | some b=>if(r.kind==1&&Lu b r)=true then(b.c0,true) else(KP,false)
theorem U9 (w:DWorld) (r:DRef):Ctr Tryz.prog 53 [.agg w.c,.agg r.c] [.val (.agg (Dc w r).1.c),.val (.c (.v (.bool (Dc w r).2)))]:=by
 refine Ctr.mk Tryz.call53 Tryz.func53 rfl mixed Tryz.ntmps53 Tryz.results53 (by kernel_rfl) rfl fun hw=>?_
 rcases h1:r.kind != 1 with _ | _
 ·have hk1:(r.kind==1)=true:=by simpa using h1
  simp only[go_sem,h1]
  try refine DrawK.mk ?_
  try simp only[go_sem,h1]
  first | refine CallF.mk _ (by simpa only[go_sem] using Ja w r) ?_ | refine CallK.mk _ (by simpa only[go_sem] using Ja w r) fun _=>?_
  rcases h2:there w r with _ | _
  ·have hc:Dc w r=(KP,false):=by
    unfold Dc
    unfold there at h2
    split
    ·rfl
    ·rename_i b hb
     simp only[hb] at h2
     simp[h2]
   simp only[go_sem,h1,h2,hc,KP,List.map_nil]
  ·obtain⟨k,hk,hb,hat⟩ | ⟨hb,hat⟩:=Gm w r.buf
   ·have hc:Dc w r=(w.b[k].c0,true):=by
     unfold Dc
     simp only[there,hat] at h2
     simp[hat,h2,hk1]
    simp only[go_sem,h1,h2,hb,AA _ hk,hk,hc]
   ·simp only[there,hat] at h2
    cases h2
 ·have hk1:(r.kind==1)=false:=by simpa using h1
  have hc:Dc w r=(KP,false):=by
   unfold Dc
   split
   ·rfl
   ·simp[hk1]
  simp only[go_sem,h1,hc,KP,List.map_nil]
  try refine DrawK.mk ?_
  try simp only[go_sem,h1,hc,KP,List.map_nil]
noncomputable def L6 (w:DWorld) (r:DRef):List DRow:=match UG w r.buf with
 | none=>[]
 | some b=>(CU w.c0.cols b.g).getD []
theorem H7 {l:List Int} (h:Vd (l.map byteC)):AY l:=fun n hn=>by
 have h1:=SQ h _ (List.mem_map.2 ⟨n,hn,rfl⟩)
 have h2:Kt (.int .u8 n)=true:=h1.1
 simp[Kt,Lit.wf,isByte,IntKind.min,IntKind.max,IntKind.bits,IntKind.signed] at h2 ⊢
 omega
theorem G5:∀ (a b:List Cl),O4 (a++b)→O4 a∧O4 b
 | [],b,h=>⟨trivial,h⟩
 | c::a,b,h=>⟨⟨h.1,(G5 a b h.2).1⟩,(G5 a b h.2).2⟩
theorem gW {w:DWorld} {k:Nat} (h:O4 w.c) (hk:k<w.b.length):AY w.b[k].g:=by
 rw[DWorld.c_eq] at h
 have h1:=(G5 _ _ (G5 _ _ (G5 _ _ (G5 _ _ (G5 _ _ (G5 _ _ h).2).2).2).2).2).1.1
 simp only[YC] at h1
 have h2:=SQ h1.2 _ (List.mem_map.2 ⟨w.b[k],List.getElem_mem hk,rfl⟩)
 rw[DBuf.c_eq] at h2
 have h3:=(G5 _ _ (G5 _ _ (G5 _ _ h2).2).2).2.1
 simp only[YC] at h3
 exact H7 h3.2
theorem PW {w:DWorld} (hf:Cb w) {k:Nat} (hk:k<w.b.length):Ez w.b[k].c0∧w.b[k].g.length≤1048576:=by
 rw[Gg] at hf
 have:=hf.2.2.1.2 _ (List.getElem_mem hk)
 rw[MP] at this
 exact this
theorem p_ (x:Option (List DRow)):(QA x).map Rt = [.val (.c (.sl ((x.getD []).map DRow.c))),.val (.c (.v (.bool (x.isSome))))]:=by
 cases x with
 | none=>rfl
 | some l =>
  simp only[QA,List.map_cons,List.map_nil,Rt,Bg]
  rfl
theorem dP (cs:List Int) (b:List Int) (hb:AY b) (hl:b.length≤1048576):Ctr Tryz.prog 100 [.c (.sl (cs.map intC)),.c (.sl (b.map byteC))] [.val (.c (.sl (((CU cs b).getD []).map DRow.c))),.val (.c (.v (.bool ((CU cs b).isSome))))]:=by
 rw[← p_]; exact(Uw cs b hb hl).frz
theorem Vr (w:DWorld) (r:DRef) {k:Nat} (hf:Cb w) (hk:k<w.b.length) (hb:r.buf=(k:Int)):Ctr Tryz.prog 45 [.agg w.c,.agg r.c] [.val (.c (.sl ((L6 w r).map DRow.c)))]:=by
 refine Ctr.mk Tryz.call45 Tryz.func45 rfl mixed Tryz.ntmps45 Tryz.results45 (by kernel_rfl) rfl fun hw=>?_
 have hbo:=gW hw.1 hk
 have hg:L6 w r=(CU w.c0.cols w.b[k].g).getD []:=by simp only[L6,UG,hb]; simp[hk]
 simp only[go_sem,hb,AA _ hk,hk]
 refine DrawK.mk ?_
 simp only[go_sem,hb,AA _ hk,hk]
 refine CallF.mk _ (dP w.c0.cols w.b[k].g hbo (PW hf hk).2) ?_
 simp only[go_sem,hg]
end Go.Proofs.YthoeeoddgkjkkaaGreat
