/- A part. -/
import Derived.Test.YtnchiiikacemmaaGreatVmF
set_option linter.unusedSimpArgs false
set_option linter.unusedVariables false
namespace Go.Vm
open Go.RowKit
theorem Rf {P:Program} {T:TypeId} {f fo:Nat} {ft:TypeId} (h:AB P T f=some (fo,ft)):∃ (fs:Array Field) (x:Field),P.underlying T=some (.struct fs)∧fs[f]?=some x∧x.offset=fo∧x.type=ft:=by
 unfold AB at h
 split at h
 ·rename_i fs hu
  cases hx:fs[f]? with
  | none=>simp[hx] at h
  | some x=>simp[hx] at h; exact⟨fs,x,hu,hx,h.1,h.2⟩
 ·cases h
theorem Kq {P:Program} {T e:TypeId} (h:Dh P T=some e):P.underlying T=some (.slice e):=by
 unfold Dh at h
 split at h
 ·simp only[ah] at h; subst h; assumption
 ·cases h
def Gives (P:Program) (a:Act) (w:World) (St:Nat→Nat→Prop) (st:List Ob) (β:Nat→Option Nat) (o:Oper) (x:AV):Prop:=
 ∃ v,(execOp a.eval o).run P w = .ok (.value v) w∧AVR w St st β x v
variable {P:Program} {w0:Bs} {St0 St:Nat→Nat→Prop} {β:Nat→Option Nat} {s:MS} {a:Act} {w:World}
theorem AEy (h:Core w0 St0 St β s a w) (o:Oper) (T:TypeId) (x:Operand) (ho:o.op = .load T x) (hc:A7 x=true) {y:AV} (hy:H7 P s (.load T x)=some y):Gives P a w St s.st β o y:=by
 have he:=CG h x hc
 simp only[H7] at hy
 split at hy
 ·rename_i n g hs hg
  split at hy
  ·rename_i l i off hev
   split at hy
   ·rename_i ob hob
    split at hy
    ·rename_i row hrow
     split at hy
     ·rename_i y0 hcut
      split at hy
      ·rename_i hno
       simp only[ah] at hy
       subst hy
       rw[hev] at he
       obtain⟨b,cs,hb,hu,g1,g2,g3⟩:=xC h he hob
       obtain⟨v,hv,hr⟩:=xA (P:=P) (T:=T) (zN g1 g2 g3 hrow) hs hg hcut hno
       exact⟨v,by simp[execOp,ho,hu,hv],hr⟩
      ·cases hy
     ·cases hy
    ·cases hy
   ·cases hy
  ·rename_i row hev
   rw[hev] at he
   simp only[AVR] at he
   obtain⟨b,off,hu,hr⟩:=he
   obtain⟨v,hv,hr2⟩:=xA (P:=P) (w:=w) (St:=St) (st:=s.st) (β:=β) (T:=T) (row:=row) (b:=b) (o:=off) (off:=0) (fun j c hj=>by
    obtain⟨_,u,hu1,hu2⟩:=hr.at j c hj
    refine⟨u,hu1, ?_⟩
    cases c with
    | ref l=>simp[RdD] at hu2
    | v x=>exact hu2
    | sl xs=>exact hu2
    | ow ty sz xs=>simp[RdD] at hu2) hs hg hy (zM (fun j c hj=>by
     obtain⟨_,u,hu1,hu2⟩:=hr.at j c hj
     cases c with
     | ow ty sz xs=>simp[RdD] at hu2
     | _=>rfl) hy)
   exact⟨v,by simp only[abE] at hv; simp[execOp,ho,hu,hv],hr2⟩
  ·cases hy
 ·cases hy
theorem ACx (h:Core w0 St0 St β s a w) (o:Oper) (T:TypeId) (x:Operand) (f:Nat) (ho:o.op = .field T x f) (hc:A7 x=true) {y:AV} (hy:H7 P s (.field T x f)=some y):Gives P a w St s.st β o y:=by
 have he:=CG h x hc
 simp only[H7] at hy
 split at hy
 ·rename_i fo ft hf
  split at hy
  ·rename_i n g row hs hg hev
   rw[hev] at he
   simp only[AVR] at he
   obtain⟨us,hu,h1,h2⟩:=he
   obtain⟨fs,fx,q1,q2,q3,q4⟩:=Rf hf
   obtain⟨v,hv,hr⟩:=ACv (P:=P) h1 h2 hs hg hy
   subst q3 q4
   exact⟨v,by simp[execOp,ho,Instr.field,run_underlying q1,q2,hu,asAgg,hv],hr⟩
  ·cases hy
 ·cases hy
theorem oO (h:Core w0 St0 St β s a w) (o:Oper) (T:TypeId) (x:Operand) (f:Nat) (ho:o.op = .fieldAddr T x f) (hc:A7 x=true) {y:AV} (hy:H7 P s (.fieldAddr T x f)=some y):Gives P a w St s.st β o y:=by
 have he:=CG h x hc
 simp only[H7] at hy
 split at hy
 ·rename_i fo ft hf
  obtain⟨fs,fx,q1,q2,q3,q4⟩:=Rf hf
  subst q3 q4
  split at hy
  ·rename_i m hs
   have hrun:∀ b off,(Instr.fieldAt T (.pointer (some ⟨b,off,none⟩)) f).run P w = .ok (.pointer (some ⟨b,off+fx.offset,none⟩)) w:=by
    intro b off
    simp[Instr.fieldAt,run_underlying q1,q2,Instr.sureAddr,fieldPlace,Ha hs,addr_add]
   split at hy
   ·rename_i l i off hev
    split at hy
    ·rename_i ob hob
     simp only[ah] at hy
     subst hy
     rw[hev] at he
     obtain⟨b,cs,hb,hu,_⟩:=xC h he hob
     refine⟨_,by simp[execOp,ho,hu,hrun]; rfl, ?_⟩
     obtain⟨hl,_⟩:=BV hob
     simp only[AVR,hl]
     exact fun _=>⟨b,hb,by rw[abv]⟩
    ·cases hy
   ·rename_i row hev
    simp only[ah] at hy
    subst hy
    rw[hev] at he
    simp only[AVR] at he
    obtain⟨b,off,hu,hr⟩:=he
    refine⟨_,by simp[execOp,ho,hu,hrun]; rfl, ?_⟩
    simp only[AVR]
    exact⟨b,_,rfl,hr.drop _⟩
   ·cases hy
  ·cases hy
 ·cases hy
theorem run_indexAt {T e:TypeId} {n:Nat} (ht:P.underlying T=some (.slice e)) (hs:AX P e=some n) {b off len cap k:Nat} {kd:IntKind} (hk:k<len) :
  (Instr.indexAt T (.slice (some ⟨b,off,none⟩) len cap) (.int kd (k:Int))).run P w = .ok (.pointer (some ⟨b,off+k*n,none⟩)) w:=by
 have h1:¬ len≤k:=by omega
 simp[Instr.indexAt,asIntOf,run_underlying ht,Ha hs,addr_add,h1]
theorem oP (h:Core w0 St0 St β s a w) (o:Oper) (T:TypeId) (x ix:Operand) (ho:o.op = .indexAddr T x ix) (hc:A7 x=true) (hc2:A7 ix=true) {y:AV} (hy:H7 P s (.indexAddr T x ix)=some y):Gives P a w St s.st β o y:=by
 have he:=CG h x hc
 have hi:=CG h ix hc2
 simp only[H7] at hy
 split at hy
 ·rename_i e hte
  have ht:=Kq hte
  split at hy
  ·rename_i n k hs hk
   obtain⟨kd,hi2⟩:=jH hi hk
   split at hy
   ·rename_i xs hev
    split at hy
    ·rename_i row hrow
     split at hy
     ·rename_i hlen
      simp only[ah] at hy
      subst hy
      rw[hev] at he
      simp only[AVR,RdC,RdD] at he
      obtain⟨ad,cap,hu,h2,h3,⟨sz,h4⟩,h5⟩:=he
      have hkl:k<xs.length:=(ay.1 hrow).1
      rcases h5 with rfl | ⟨b,off,rfl,h6⟩
      ·simp at hkl
      ·have hsz:sz=n:=by rw[← hlen]; exact(h4 row (aZ hrow)).symm
       subst hsz
       refine⟨_,by simp[execOp,ho,hu,hi2,run_indexAt ht hs hkl]; rfl, ?_⟩
       simp only[AVR]
       exact⟨b,_,rfl,h6.at sz h4 k row hrow⟩
     ·cases hy
    ·cases hy
   ·rename_i l hev
    split at hy
    ·rename_i ob hob
     split at hy
     ·rename_i hkl
      obtain⟨hkl,hsz⟩:=hkl
      simp only[ah] at hy
      subst hy
      rw[hev] at he
      obtain⟨hl,hlive⟩:=BV hob
      simp only[AVR,RdC,BD,hl] at he
      have h2:=he.2 hlive
      split at h2
      ·obtain⟨_,hx⟩:=h2
       rw[hx] at hkl; simp at hkl
      ·rename_i b hb
       obtain⟨cap,cs,hu,h3,h4,_⟩:=h2
       refine⟨_,by simp[execOp,ho,hu,hi2,run_indexAt ht hs hkl]; rfl, ?_⟩
       simp only[AVR,hl]
       exact fun _=>⟨b,hb,by simp[hsz]⟩
     ·cases hy
    ·cases hy
   ·cases hy
  ·cases hy
 ·cases hy
theorem AGi (h:Core w0 St0 St β s a w) (o:Oper) (c:Call) (ho:o.op = .call c) (hcl:c.callee = .builtin .len) (hc:c.args.toList.all A7=true) {y:AV} (hy:H7 P s (.call c)=some y):Gives P a w St s.st β o y:=by
 simp only[H7,hcl] at hy
 split at hy
 ·rename_i t x hat hax
  have hx:A7 x=true:=by rw[hax] at hc; simpa using hc
  have he:=CG h x hx
  have ha1:c.argTypes = #[t]:=by have:=congrArg List.toArray hat; simpa using this
  have ha2:c.args = #[x]:=by have:=congrArg List.toArray hax; simpa using this
  split at hy
  ·rename_i b hu hev
   simp only[ah] at hy
   subst hy
   rw[hev] at he
   obtain⟨hv,hw⟩:=NF he
   refine⟨.int .i64 b.size, ?_,U1 (ABC (by simpa [Nu] using hw))⟩
   simp[execOp,ho,resolve,hcl,ha1,ha2,invoke,builtin,Builtin.len_,run_underlying hu,hv,goInt]
  ·rename_i e d hu hev
   split at hy
   ·rename_i xs hd
    simp only[ah] at hy
    subst hy
    rw[hev] at he
    simp only[AVR] at he
    obtain⟨ad,cap,hv,h1,h2⟩:=oN h he hd
    refine⟨.int .i64 xs.length, ?_,U1 (ABC (by omega))⟩
    simp[execOp,ho,resolve,hcl,ha1,ha2,invoke,builtin,Builtin.len_,run_underlying hu,hv,goInt]
   ·cases hy
  ·cases hy
 ·cases hy
theorem ABD (h:Core w0 St0 St β s a w) (o:Oper) (c:Call) (ho:o.op = .call c) (hcl:c.callee = .builtin .min∨c.callee = .builtin .max) (hc:c.args.toList.all A7=true) {y:AV} (hy:H7 P s (.call c)=some y):Gives P a w St s.st β o y:=by
 rcases hcl with hcl | hcl
 all_goals
  simp only[H7,hcl] at hy
  split at hy
  ·rename_i x x2 hax
   have hx:A7 x=true∧A7 x2=true:=by rw[hax] at hc; simpa using hc
   have he:=CG h x hx.1
   have he2:=CG h x2 hx.2
   have ha2:c.args = #[x,x2]:=by have:=congrArg List.toArray hax; simpa using this
   split at hy
   ·rename_i p q hev hev2
    simp only[ah] at hy
    subst hy
    rw[hev] at he
    rw[hev2] at he2
    obtain⟨hv,hw⟩:=NF he
    obtain⟨hv2,hw2⟩:=NF he2
    refine⟨_, ?_,U1 ?_⟩
    rotate_left
    ·simp only[Nu] at hw hw2 ⊢
     split<;>assumption
    ·simp[execOp,ho,resolve,hcl,ha2,invoke,builtin,Builtin.min_,Builtin.max_,Builtin.min2,Builtin.max2,hv,hv2]
   ·cases hy
  ·cases hy
theorem ACy (h:Core w0 St0 St β s a w) (o:Oper) (T:TypeId) (x ix:Operand) (ho:o.op = .index T x ix) (hc:A7 x=true) (hc2:A7 ix=true) {y:AV} (hy:H7 P s (.index T x ix)=some y):Gives P a w St s.st β o y:=by
 have he:=CG h x hc
 have hi:=CG h ix hc2
 simp only[H7] at hy
 split at hy
 ·rename_i hu
  split at hy
  ·rename_i b k hev hk
   obtain⟨kd,hi2⟩:=jH hi hk
   split at hy
   ·rename_i c hb
    simp only[ah] at hy
    subst hy
    rw[hev] at he
    obtain⟨hv,hw⟩:=NF he
    refine⟨_, ?_,U1 (ACw c)⟩
    simp[execOp,ho,Instr.index,asIntOf,hi2,run_underlying hu,hv,hb]
   ·cases hy
  ·cases hy
 ·cases hy
theorem jI (h:Core w0 St0 St β s a w) (o:Oper) (hc:o.op.operands.toList.all A7=true) {y:AV} (hy:H7 P s o.op=some y):Gives P a w St s.st β o y:=by
 obtain⟨dst,op,type,pos,after,guard⟩:=o
 simp only at hc hy
 cases op with
 | move x =>
  have he:=CG h x (by simpa [Op.operands] using hc)
  simp only[H7,ah] at hy; subst hy
  exact⟨_,by simp[execOp],he⟩
 | assign x =>
  have he:=CG h x (by simpa [Op.operands] using hc)
  simp only[H7,ah] at hy; subst hy
  exact⟨_,by simp[execOp],he⟩
 | pick c x1 x2 =>
  simp[Op.operands] at hc
  have he:=CG h c hc.1
  have h1:=CG h x1 hc.2.1
  have h2:=CG h x2 hc.2.2
  simp only[H7] at hy
  split at hy
  ·rename_i t hev
   simp only[ah] at hy; subst hy
   rw[hev] at he
   obtain⟨hv,_⟩:=NF he
   cases t with
   | true=>exact⟨_,by simp[execOp,hv,asBool],h1⟩
   | false=>exact⟨_,by simp[execOp,hv,asBool],h2⟩
  ·cases hy
 | load T x=>exact AEy h _ T x rfl (by simpa [Op.operands] using hc) hy
 | nilCheck x =>
  have he:=CG h x (by simpa [Op.operands] using hc)
  simp only[H7] at hy
  split at hy
  ·rename_i l i off hev
   split at hy
   ·rename_i ob hob
    simp only[ah] at hy; subst hy
    rw[hev] at he
    obtain⟨b,cs,hb,hu,_⟩:=xC h he hob
    exact⟨_,by simp[execOp,hu]; rfl,by rw[← hu]; exact he⟩
   ·cases hy
  ·rename_i row hev
   simp only[ah] at hy; subst hy
   rw[hev] at he
   have he':=he
   simp only[AVR] at he'
   obtain⟨b,off,hu,_⟩:=he'
   exact⟨_,by simp[execOp,hu]; rfl,by rw[← hu]; exact he⟩
  ·rename_i f x1 x2 hev
   simp only[ah] at hy; subst hy
   rw[hev] at he
   obtain⟨hv,hw⟩:=NF he
   exact⟨.func (.func f) x1 x2,by simp[execOp,hv],U1 hw⟩
  ·cases hy
 | binOp op T x1 x2 T2 =>
  simp[Op.operands] at hc
  have h1:=CG h x1 hc.1
  have h2:=CG h x2 hc.2
  simp only[H7] at hy
  split at hy
  ·rename_i p q hev1 hev2
   split at hy
   ·rename_i r hr
    simp only[ah] at hy; subst hy
    rw[hev1] at h1
    rw[hev2] at h2
    obtain⟨hv1,hw1⟩:=NF h1
    obtain⟨hv2,hw2⟩:=NF h2
    obtain⟨hrun,hwf⟩:=ACu (P:=P) hw1 hr x1 x2 w
    refine⟨r, ?_,U1 hwf⟩
    simp only[execOp,hv1,hv2]
    rw[Sem.run_bind,hrun]
    rfl
   ·cases hy
  ·rename_i cs ds hev1 hev2
   rw[hev1] at h1
   rw[hev2] at h2
   simp only[AVR] at h1 h2
   obtain⟨us,hu1,hu2,hu3⟩:=h1
   obtain⟨vs,hv1,hv2,hv3⟩:=h2
   split at hy
   ·rename_i ks hks
    split at hy
    ·rename_i r hr
     obtain⟨k1,k2⟩:=oM (w:=w) hks hr (us:=us) (vs:=vs) (fun k x hk=>by
      obtain⟨z,hz,hc⟩:=hu3 k _ hk
      simp only[RdC,RdD] at hc
      rw[hz,hc.1]) (fun k x hk=>by
      obtain⟨z,hz,hc⟩:=hv3 k _ hk
      simp only[RdC,RdD] at hc
      rw[hz,hc.1]) x1 x2
     split at hy
     ·simp only[ah] at hy; subst hy
      refine⟨.bool r, ?_,U1 rfl⟩
      simp only[execOp,hu1,hv1]
      rw[Sem.run_bind,k1]
      rfl
     ·simp only[ah] at hy; subst hy
      refine⟨.bool (!r), ?_,U1 rfl⟩
      simp only[execOp,hu1,hv1]
      rw[Sem.run_bind,k2]
      rfl
     ·cases hy
    ·cases hy
   ·cases hy
  ·cases hy
 | unOp op T x =>
  have he:=CG h x (by simpa [Op.operands] using hc)
  simp only[H7] at hy
  split at hy
  ·rename_i p hev
   split at hy
   ·rename_i r hr
    simp only[ah] at hy; subst hy
    rw[hev] at he
    obtain⟨hv,hw⟩:=NF he
    obtain⟨hrun,hwf⟩:=AEw (P:=P) hr w
    exact⟨r,by simp[execOp,hv,hrun],U1 hwf⟩
   ·cases hy
  ·cases hy
 | convert src dst x =>
  have he:=CG h x (by simpa [Op.operands] using hc)
  simp only[H7] at hy
  split at hy
  ·rename_i d1 k kd n hs1 hs2 hev
   simp only[ah] at hy; subst hy
   rw[hev] at he
   obtain⟨hv,hw⟩:=NF he
   refine⟨_, ?_,U1 (v:=.int k (k.wrap n)) (by simp only[Nu]; exact Go.wf_wrap _ _)⟩
   simp[execOp,hv,convert,run_underlying hs1,run_underlying hs2,Conv.intToInt]
  ·rename_i d1 b hs1 hs2 hev
   simp only[ah] at hy; subst hy
   rw[hev] at he
   obtain⟨hv,hw⟩:=NF he
   refine⟨_, ?_,U1 (v:=.string b) hw⟩
   simp[execOp,hv,convert,run_underlying hs1,run_underlying hs2]
  ·rename_i e d _ hs1 hs2 hev
   split at hy
   ·rename_i xs he1 hdx
    split at hy
    ·rename_i ns hns
     simp only[ah] at hy; subst hy
     rw[hev] at he
     simp only[AVR] at he
     obtain⟨q1,q2⟩:=dX hns
     obtain⟨ad0,cap0,e0,e1,e2⟩:=oN h he hdx
     obtain⟨ad,cap,hu,_,hcells⟩:=RZ h he hdx
     have hsz:(strOfNums ns).size≤maxLen:=by rw[strOfNums_size,q1]; omega
     refine⟨.string (strOfNums ns), ?_,U1 (v:=.string (strOfNums ns)) (by simp only[Nu,aY]; exact hsz)⟩
     have key:(convert src dst (a.eval x)).run P w = .ok (.string (strOfNums ns)) w:=by
      rw[hu]
      rcases hcells with rfl | ⟨b,off,rfl,hc2⟩
      ·have:ns = []:=dh q1
       subst this
       rw[hu] at e0
       cases ad with
       | none=>exact run_convert_bytes_nil w src e hs1 he1 _ _ dst hs2
       | some ad =>
        have:=run_convert_bytes_string (P:=P) w src dst e (some ad) 0 cap hs1 he1 hs2
        simp only[oI]
        rw[this,run_bytesToString w ad 0 cap [] (run_loadCells_list (P:=P) w ad [] (fun j v hj=>by simp at hj))]
        rfl
      ·refine run_convert_bytes_arg w src e hs1 he1 b off xs.length cap ns q1 (fun i hi=>?_) dst hs2
       have hin:i<ns.length:=by omega
       have hf:=q2 i ns[i] (by simp[hin])
       obtain⟨v,hv,hr⟩:=hc2 i _ hf
       have hr2:=hr.toC rfl
       simp only[RdC,RdD] at hr2
       rw[hv,hr2.1]
       simp[List.getD,hin]
     simp only[execOp,Sem.run_bind,key,Result.andThen_ok,Sem.run_pure]
    ·cases hy
   ·cases hy
  ·cases hy
 | fieldAddr T x f=>exact oO h _ T x f rfl (by simpa [Op.operands] using hc) hy
 | field T x f=>exact ACx h _ T x f rfl (by simpa [Op.operands] using hc) hy
 | indexAddr T x ix =>
  simp[Op.operands] at hc
  exact oP h _ T x ix rfl hc.1 hc.2 hy
 | index T x ix =>
  simp[Op.operands] at hc
  exact ACy h _ T x ix rfl hc.1 hc.2 hy
 | extract x ix =>
  have he:=CG h x (by simpa [Op.operands] using hc)
  simp only[H7] at hy
  split at hy
  ·rename_i xs hev
   rw[hev] at he
   simp only[AVR] at he
   obtain⟨us,hu,h1⟩:=he
   obtain⟨u,hu1,hu2⟩:=xB h1 ix y hy
   exact⟨u,by simp[execOp,hu,Instr.extract,hu1],hu2⟩
  ·cases hy
 | call c =>
  have hca:c.args.toList.all A7=true:=by
   simp only[Op.operands,Call.operands,aa6,aaY,ax] at hc
   exact hc.2
  by_cases h1:c.callee = .builtin .len
  ·exact AGi h _ c rfl h1 hca hy
  ·by_cases h2:c.callee = .builtin .min∨c.callee = .builtin .max
   ·exact ABD h _ c rfl h2 hca hy
   ·simp only[H7] at hy
    split at hy<;>simp_all
 | _=>simp[H7] at hy
theorem jJ {l:Nat} {u:Value} {st:List Ob} (h:BD w st β l u):l<st.length:=by
 unfold BD at h
 rcases bf l st.length with h' | h'
 ·exact h'
 ·simp[bF h'] at h
theorem uG {l i off:Nat} {u:Value} {st:List Ob} (h:AVR w St st β (.lp l i off) u):l<st.length:=by
 simp only[AVR] at h
 rcases bf l st.length with h' | h'
 ·exact h'
 ·simp[bF h'] at h
theorem Core.newObB (h:Core w0 St0 St β s a w) {w':World} (hb:Below w.heap.size w w') (ob:Ob) (ob':Option Nat) (hwr:ob.live=true)
  (hnone:ob'=none→ob.xs = []) (hsome:∀ b,ob'=some b→w.heap.size≤b∧b<w'.heap.size∧∃ cs:Array Value,w'.heap[b]?=some (.cells cs ob.ty (0,0))∧(∀ x∈ob.xs,x.length=ob.sz) ∧
   ∀ (k:Nat) (c:Cl),ob.xs.flatten[k]?=some c→∃ u,cs[k]?=some u∧RdB w St s.st β c u)
  (hown:Own w0 (fun _=>False) w' St (s.st ++ [ob]) (fun l=>if l=s.st.length then ob' else β l)) :
  ∃ β',Core w0 St0 St β' ⟨s.n,s.env,s.st ++ [ob]⟩ a w'∧β' s.st.length=ob'∧(∀ x u,AVR w St s.st β x u→AVR w' St (s.st ++ [ob]) β' x u)∧(∀ x u,RdC w St s.st β x u→RdC w' St (s.st ++ [ob]) β' x u):=by
 refine⟨fun l=>if l=s.st.length then ob' else β l, ?_⟩
 have hw0:w0.heap.size≤w.heap.size:=h.below.size
 have hblk:∀ k,k<w.heap.size→w'.heap[k]?=w.heap[k]?:=hb.block
 have hcell:∀ b o,St b o→w'.cell? ⟨b,o,none⟩=w.cell? ⟨b,o,none⟩:=fun b o hbo=>cell_of_block (hblk b (h.stIn b o hbo))
 have hold:∀ l,l<s.st.length→(s.st ++ [ob])[l]?=s.st[l]?:=fun l hl=>by rw[au hl]
 have hr:∀ l u,BD w s.st β l u→BD w' (s.st ++ [ob]) (fun l=>if l=s.st.length then ob' else β l) l u:=by
  intro l u hu
  have hl:=jJ hu
  unfold BD at hu ⊢
  rw[hold l hl]
  have hne:¬ l=s.st.length:=by omega
  simp only[hne,aI]
  cases hq:s.st[l]? with
  | none=>simp[hq] at hu
  | some o2 =>
   simp only[hq] at hu ⊢
   refine⟨hu.1,fun hlive=>?_⟩
   have h2:=hu.2 hlive
   cases hβ:β l with
   | none=>simpa [hβ] using h2
   | some b =>
    simp only[hβ] at h2 ⊢
    obtain⟨cap,cs,h1,h2,h3,h4,h5⟩:=h2
    exact⟨cap,cs,h1,h2,h3,by rw[hblk b (h.obs l o2 b hq hlive hβ).2.1]; exact h4,h5⟩
 have hp:∀ l i off u,AVR w St s.st β (.lp l i off) u→AVR w' St (s.st ++ [ob]) (fun l=>if l=s.st.length then ob' else β l) (.lp l i off) u:=by
  intro l i off u hu
  have hl:=uG hu
  have hne:¬ l=s.st.length:=by omega
  simp only[AVR,hold l hl,hne,aI] at hu ⊢
  exact hu
 have hA:∀ x u,AVR w St s.st β x u→AVR w' St (s.st ++ [ob]) (fun l=>if l=s.st.length then ob' else β l) x u:=fun x u hx=>AVR.mono (fun _ _ h=>h) hcell hr hp x u hx
 have hC:∀ x u,RdC w St s.st β x u→RdC w' St (s.st ++ [ob]) (fun l=>if l=s.st.length then ob' else β l) x u:=fun x u hx=>RdC.mono (fun _ _ h=>h) hcell hr x u hx
 have hBB:∀ x u,RdB w St s.st β x u→RdB w' St (s.st ++ [ob]) (fun l=>if l=s.st.length then ob' else β l) x u:=fun x u hx=>RdB.mono (fun _ _ h=>h) hcell hr x u hx
 have hsplit:∀ l o2,(s.st ++ [ob])[l]?=some o2→(l<s.st.length∧s.st[l]?=some o2)∨(l=s.st.length∧o2=ob):=by
  intro l o2 hl
  rcases bf l s.st.length with h1 | h1
  ·exact .inl ⟨h1,by rwa [hold l h1] at hl⟩
  ·rw[aF h1] at hl
   rcases bf 0 (l-s.st.length) with h2 | h2
   ·rw[bF (by simp; omega)] at hl; cases hl
   ·have:l-s.st.length=0:=by omega
    simp[this] at hl
    exact .inr ⟨by omega,hl.symm⟩
 refine⟨?_,by simp,hA,hC⟩
 exact {
  defers:=h.defers
  size:=h.size
  env:=fun i=>hA _ _ (h.env i)
  below:=h.below.grow hb
  st0:=h.st0
  stOld:=h.stOld
  stIn:=fun b o hbo=>bI (h.stIn b o hbo) hb.size
  obs:=fun l o2 b hl hlive hβ=>by
   rcases hsplit l o2 hl with ⟨h1,h2⟩ | ⟨rfl,rfl⟩
   ·have hne:¬ l=s.st.length:=by omega
    simp only[hne,aI] at hβ
    obtain⟨q1,q2,q3⟩:=h.obs l o2 b h2 hlive hβ
    refine⟨q1,bI q2 hb.size, ?_⟩
    obtain⟨cs,g1,g2,g3⟩:=q3
    refine⟨cs,by rw[hblk b q2]; exact g1,g2,fun k c hk=>?_⟩
    obtain⟨u,hu,hc⟩:=g3 k c hk
    exact⟨u,hu,hBB _ _ hc⟩
   ·simp only[aW] at hβ
    obtain⟨q1,q2,cs,g1,g2,g3⟩:=hsome b hβ
    refine⟨.inl (Nat.le_trans hw0 q1),q2,cs,g1,g2,fun k c hk=>?_⟩
    obtain⟨u,hu,hc⟩:=g3 k c hk
    exact⟨u,hu,hBB _ _ hc⟩
  nil:=fun l o2 hl hlive hβ=>by
   rcases hsplit l o2 hl with ⟨h1,h2⟩ | ⟨rfl,rfl⟩
   ·have hne:¬ l=s.st.length:=by omega
    simp only[hne,aI] at hβ
    exact h.nil l o2 h2 hlive hβ
   ·simp only[aW] at hβ
    exact hnone hβ
  inj:=fun l1 l2 o1 o2 b h1 h2 h3 h4 h5 h6=>by
   rcases hsplit l1 o1 h1 with ⟨p1,p2⟩ | ⟨rfl,rfl⟩<;>rcases hsplit l2 o2 h2 with ⟨q1,q2⟩ | ⟨rfl,rfl⟩
   ·have e1:¬ l1=s.st.length:=by omega
    have e2:¬ l2=s.st.length:=by omega
    simp only[e1,e2,aI] at h5 h6
    exact h.inj l1 l2 o1 o2 b p2 q2 h3 h4 h5 h6
   ·have e1:¬ l1=s.st.length:=by omega
    simp only[e1,aI,aW] at h5 h6
    have:=(h.obs l1 o1 b p2 h3 h5).2.1
    have:=(hsome b h6).1
    omega
   ·have e1:¬ l2=s.st.length:=by omega
    simp only[e1,aI,aW] at h5 h6
    have:=(h.obs l2 o2 b q2 h4 h6).2.1
    have:=(hsome b h5).1
    omega
   ·rfl
  sep:=fun l o2 b o hl hlive hβ hbo=>by
   rcases hsplit l o2 hl with ⟨h1,h2⟩ | ⟨rfl,rfl⟩
   ·have hne:¬ l=s.st.length:=by omega
    simp only[hne,aI] at hβ
    exact h.sep l o2 b o h2 hlive hβ hbo
   ·simp only[aW] at hβ
    have:=(hsome b hβ).1
    have:=h.stIn b o hbo
    omega
  own:=hown }
theorem Core.newOb (h:Core w0 St0 St β s a w) {w':World} (hb:Below w.heap.size w w') (ob:Ob) (ob':Option Nat) (hwr:ob.live=true)
  (hnone:ob'=none→ob.xs = []) (hsome:∀ b,ob'=some b→w.heap.size≤b∧b<w'.heap.size∧∃ cs:Array Value,w'.heap[b]?=some (.cells cs ob.ty (0,0))∧(∀ x∈ob.xs,x.length=ob.sz) ∧
   ∀ (k:Nat) (c:Cl),ob.xs.flatten[k]?=some c→∃ u,cs[k]?=some u∧RdC w St s.st β c u) :
  ∃ β',Core w0 St0 St β' ⟨s.n,s.env,s.st ++ [ob]⟩ a w'∧β' s.st.length=ob'∧(∀ x u,AVR w St s.st β x u→AVR w' St (s.st ++ [ob]) β' x u)∧(∀ x u,RdC w St s.st β x u→RdC w' St (s.st ++ [ob]) β' x u):=by
 refine h.newObB hb ob ob' hwr hnone (fun b hb'=>?_) ?_
 ·obtain⟨q1,q2,cs,g1,g2,g3⟩:=hsome b hb'
  refine⟨q1,q2,cs,g1,g2,fun k c hk=>?_⟩
  obtain⟨u,hu,hc⟩:=g3 k c hk
  exact⟨u,hu,hc.toB⟩
 ·refine h.own.move id (fun x hx=>⟨⟨hx.1,fun h=>h,bI hx.2.2.1 hb.size,hx.2.2.2.1,fun l o2 hl hlv=>?_⟩,hb.block x hx.2.2.1⟩) (fun _ _ h=>h)
   (fun b o hbo=>cell_of_block (hb.block b (h.stIn b o hbo))) (fun l o2 b k c hl hlive hβ hk hc=>?_) (fun _ _ _ _ _ _ _ _ e=>e)
  ·by_cases e:l=s.st.length
   ·simp only[e,aW]
    intro hb'
    have:=(hsome x hb').1
    have:=hx.2.2.1
    omega
   ·simp only[e,aI]
    have hlt:l<s.st.length:=by
     have:=(ay.1 hl).1
     simp at this
     omega
    rw[au hlt] at hl
    exact hx.2.2.2.2 l o2 hl hlv
  ·by_cases e:l=s.st.length
   ·subst e
    rw[aF (aK _)] at hl
    simp only[XL,aB,ah] at hl
    subst hl
    simp only[aW] at hβ
    obtain⟨_,_,cs,_,_,g3⟩:=hsome b hβ
    obtain⟨u,_,hr⟩:=g3 k c hk
    rw[hr.notOw] at hc
    cases hc
   ·simp only[e,aI] at hβ
    have hlt:l<s.st.length:=by
     have:=(ay.1 hl).1
     simp at this
     omega
    rw[au hlt] at hl
    exact⟨o2,b,hl,hlive,hβ,hk,cell_of_block (hb.block b (h.obs l o2 b hl hlive hβ).2.1)⟩
theorem V5 (w:World) (o:Obj):Below w.heap.size w (w.alloc o):=(Below.refl _ _).alloc (aK _) o
theorem alloc_at (w:World) (o:Obj):(w.alloc o).heap[w.heap.size]?=some o:=by
 show (w.heap.push o)[w.heap.size]?=_
 simp
theorem Core.newCells (h:Core w0 St0 St β s a w) (ty:TypeId) (sz:Nat) (xs:List (List Cl)) (cs:Array Value) (hl:∀ x∈xs,x.length=sz)
  (hc:∀ (k:Nat) (c:Cl),xs.flatten[k]?=some c→∃ u,cs[k]?=some u∧RdC w St s.st β c u) :
  ∃ β',Core w0 St0 St β' ⟨s.n,s.env,s.st ++ [⟨ty,sz,xs,true,true⟩]⟩ a (w.alloc (.cells cs ty))∧β' s.st.length=some w.heap.size∧(∀ x u,AVR w St s.st β x u→AVR (w.alloc (.cells cs ty)) St (s.st ++ [⟨ty,sz,xs,true,true⟩]) β' x u):=by
 obtain⟨β',h1,h2,h3,_⟩:=h.newOb (V5 w (.cells cs ty)) ⟨ty,sz,xs,true,true⟩ (some w.heap.size) rfl (by simp) (fun b hb=>by
  simp only[ah] at hb
  subst hb
  exact⟨aK _,by simp,cs,alloc_at w _,hl,hc⟩)
 exact⟨β',h1,h2,h3⟩
def Does (P:Program) (a:Act) (w:World) (w0:Bs) (St0:Nat→Nat→Prop) (s:MS) (o:Oper) (y:AV) (st':List Ob):Prop:=
 ∃ nx v w' St' β',(execOp a.eval o).run P w = .ok nx w'∧(nx = .value v∨(nx = .skip∧v=Go.undef))∧Core w0 St0 St' β' ⟨s.n,s.env,st'⟩ a w'∧AVR w' St' st' β' y v
def Nv (P:Program) (s:MS) (T:TypeId):Option (AV×List Ob):=match TJ P T with
 | some cs=>some (.lp s.st.length 0 0,s.st ++ [⟨T,cs.length,[cs],true,true⟩])
 | none=>none
def ABE (s:MS) (T:TypeId) (x:AV):Option (AV×List Ob):=match cellsA x with
 | some cs=>some (.lp s.st.length 0 0,s.st ++ [⟨T,cs.length,[cs],true,true⟩])
 | none=>none
def YG (P:Program) (s:MS) (T:TypeId) (p x:AV):Option (AV×List Ob):=match AX P T,p,cellsA x with
 | some n,.lp l i off,some cs=>match ES s.st l with
  | some ob=>if ob.wr=true∧cs.length=n then match ob.xs[i]? with
   | some row=>if off+n≤row.length then some (.undef,s.st.set l { ob with xs:=ob.xs.set i (row.take off++(cs++row.drop (off+n))) }) else none
   | none=>none
   else none
  | none=>none
 | _,_,_=>none
theorem ABF (h:Core w0 St0 St β s a w) (o:Oper) (T:TypeId) (ho:o.op = .alloc T) {y:AV} {st':List Ob} (hy:Nv P s T=some (y,st')):Does P a w w0 St0 s o y st':=by
 unfold Nv at hy
 split at hy
 ·rename_i cs0 hz0
  ·obtain⟨zs,hz,hwf,rfl⟩:=PG hz0
   simp only[ah,bQ] at hy
   obtain⟨rfl,rfl⟩:=hy
   obtain⟨z,hz1,hz2⟩:=TL hz w
   obtain⟨β',h1,h2,_⟩:=h.newCells T (zs.map Cl.v).length [zs.map .v] z.cells (by simp) (fun k c hk=>by
    simp only[bM,lT,bz,lS,uB] at hk
    obtain⟨v,hv,rfl⟩:=hk
    refine⟨v,by rw[← abn,hz2]; exact hv, ?_⟩
    simp only[RdC,RdD,true_and]
    exact aG.1 hwf v (aZ hv))
   refine⟨_,.pointer (some ⟨w.heap.size,0,none⟩),_,St,β', ?_,.inl rfl,h1, ?_⟩
   ·simp[execOp,ho,Instr.alloc,hz1,newVar,newRow]
   ·simp[AVR,h2]
 ·cases hy
theorem AEz (h:Core w0 St0 St β s a w) (o:Oper) (T:TypeId) (x:Operand) (ho:o.op = .box T x) (hc:A7 x=true) {y:AV} {st':List Ob} (hy:ABE s T (EU s x)=some (y,st')):Does P a w w0 St0 s o y st':=by
 have he:=CG h x hc
 unfold ABE at hy
 split at hy
 ·rename_i cs hcs
  simp only[ah,bQ] at hy
  obtain⟨rfl,rfl⟩:=hy
  obtain⟨q1,q2⟩:=QL he hcs
  obtain⟨β',h1,h2,_⟩:=h.newCells T cs.length [cs] (a.eval x).cells (by simp) (fun k c hk=>by
   simp only[bM,lT,bz] at hk
   obtain⟨u,hu,hr⟩:=q2 k c hk
   exact⟨u,by rw[← abn]; exact hu,hr⟩)
  refine⟨_,.pointer (some ⟨w.heap.size,0,none⟩),_,St,β', ?_,.inl rfl,h1, ?_⟩
  ·simp[execOp,ho,Instr.box,newVar,newRow]
  ·simp[AVR,h2]
 ·cases hy
theorem Core.write (h:Core w0 St0 St β s a w) {l:Nat} {ob:Ob} (hob:ES s.st l=some ob) (hwr:ob.wr=true) {b:Nat} (hb:β l=some b) (xs':List (List Cl)) (hlen:xs'.length=ob.xs.length) (hsz:∀ x∈xs',x.length=ob.sz)
  {cs cs':Array Value} (hcs:w.heap[b]?=some (.cells cs ob.ty (0,0))) (hsize:cs'.size=cs.size) (hc:∀ (k:Nat) (c:Cl),xs'.flatten[k]?=some c→∃ u,cs'[k]?=some u∧RdB w St s.st β c u)
  (how:∀ (k:Nat) (c:Cl),xs'.flatten[k]?=some c→Fb c=true→ob.xs.flatten[k]?=some c∧cs'[k]?=cs[k]?) :
  Core w0 St0 St β ⟨s.n,s.env,s.st.set l { ob with xs:=xs' }⟩ a (w.setRow b cs'):=by
 obtain⟨hl,hlive⟩:=BV hob
 obtain⟨hB,hlt,_⟩:=h.obs l ob b hl hlive hb
 have hnew:(w.setRow b cs').heap[b]?=some (.cells cs' ob.ty (0,0)):=setRow_heap w b cs cs' ob.ty (0,0) hcs
 have hoth:∀ k,k≠b→(w.setRow b cs').heap[k]?=w.heap[k]?:=fun k hk=>setRow_other w b k cs' hk
 have hbelow:BelowB w0 (w.setRow b cs'):=h.below.step (n:=0) ⟨rfl,rfl,rfl,by simp[World.setRow],fun k hk=>absurd hk (Nat.not_lt_zero _)⟩ (fun k h1 h2=>hoth k fun e=>by
  subst e
  rcases hB with h' | h'
  ·omega
  ·exact h2 h') fun k hk=>by
  by_cases e:k=b
  ·subst e; exact(jF hcs hnew).2 hsize
  ·exact jE (hoth k e)
 have hcell:∀ b' o,St b' o→(w.setRow b cs').cell? ⟨b',o,none⟩=w.cell? ⟨b',o,none⟩:=fun b' o hbo=>by
  have hne:b'≠b:=fun e=>by
   subst e
   have:=(h.sep l ob b' o hl hlive hb hbo).1
   simp[hwr] at this
  exact cell_of_block (hoth b' hne)
 have hll:l<s.st.length:=(ay.1 hl).1
 have hget:∀ l',(s.st.set l { ob with xs:=xs' })[l']?=if l=l' then some { ob with xs:=xs' } else s.st[l']?:=fun l'=>by
  rw[di]
  by_cases e:l=l'
  ·subst e; simp[hll]
  ·simp[e]
 have hr:∀ l' u,BD w s.st β l' u→BD (w.setRow b cs') (s.st.set l { ob with xs:=xs' }) β l' u:=by
  intro l' u hu
  unfold BD at hu ⊢
  rw[hget l']
  by_cases e:l=l'
  ·subst e
   simp only[hl] at hu
   simp only[aW]
   refine⟨hu.1,fun _=>?_⟩
   have h2:=hu.2 hlive
   simp only[hb] at h2 ⊢
   obtain⟨cap,cs2,p1,p2,p3,p4,p5⟩:=h2
   rw[hcs] at p4
   simp only[ah,Obj.cells.injEq,zK] at p4
   subst p4
   exact⟨cap,cs',by simpa [hlen] using p1,by simpa [hlen] using p2,p3,hnew,by rw[hsize]; exact p5⟩
  ·simp only[e,aI]
   cases hq:s.st[l']? with
   | none=>simp[hq] at hu
   | some o2 =>
    simp only[hq] at hu ⊢
    refine⟨hu.1,fun hlive2=>?_⟩
    have h2:=hu.2 hlive2
    cases hβ:β l' with
    | none=>simpa [hβ] using h2
    | some b2 =>
     simp only[hβ] at h2 ⊢
     have hne:b2≠b:=fun e2=>by subst e2; exact e (h.inj l l' ob o2 b2 hl hq hlive hlive2 hb hβ)
     rw[hoth b2 hne]
     exact h2
 have hp:∀ l' i off u,AVR w St s.st β (.lp l' i off) u→AVR (w.setRow b cs') St (s.st.set l { ob with xs:=xs' }) β (.lp l' i off) u:=by
  intro l' i off u hu
  simp only[AVR,hget l'] at hu ⊢
  by_cases e:l=l'
  ·subst e
   simp only[hl] at hu
   simpa using hu
  ·simpa [e] using hu
 have hC:∀ x u,RdC w St s.st β x u→RdC (w.setRow b cs') St (s.st.set l { ob with xs:=xs' }) β x u:=fun x u hx=>RdC.mono (fun _ _ h=>h) hcell hr x u hx
 have hBB:∀ x u,RdB w St s.st β x u→RdB (w.setRow b cs') St (s.st.set l { ob with xs:=xs' }) β x u:=fun x u hx=>RdB.mono (fun _ _ h=>h) hcell hr x u hx
 have hsp:∀ l' o2,(s.st.set l { ob with xs:=xs' })[l']?=some o2→∃ o3,s.st[l']?=some o3∧o2.live=o3.live∧o2.wr=o3.wr∧o2.sz=o3.sz∧o2.ty=o3.ty∧o2.xs.length=o3.xs.length∧(l≠l'→o2=o3)∧(l=l'→o3=ob∧o2.xs=xs'):=by
  intro l' o2 h2
  rw[hget l'] at h2
  by_cases e:l=l'
  ·subst e
   simp only[aW,ah] at h2
   subst h2
   exact⟨ob,hl,rfl,rfl,rfl,rfl,hlen,fun e=>(e rfl).elim,fun _=>⟨rfl,rfl⟩⟩
  ·simp only[e,aI] at h2
   exact⟨o2,h2,rfl,rfl,rfl,rfl,rfl,fun _=>rfl,fun e2=>(e e2).elim⟩
 exact {
  defers:=h.defers
  size:=h.size
  env:=fun i=>AVR.mono (fun _ _ h=>h) hcell hr hp _ _ (h.env i)
  below:=hbelow
  st0:=h.st0
  stOld:=h.stOld
  stIn:=fun b' o hbo=>by simpa [World.setRow] using h.stIn b' o hbo
  obs:=fun l' o2 b2 hl2 hlive2 hβ=>by
   obtain⟨o3,r1,r2,r3,r4,r5,r6,r7,r8⟩:=hsp l' o2 hl2
   obtain⟨q1,q2,cs2,g1,g2,g3⟩:=h.obs l' o3 b2 r1 (by rw[← r2]; exact hlive2) hβ
   refine⟨q1,by simpa [World.setRow] using q2, ?_⟩
   by_cases e:l=l'
   ·obtain⟨e1,e2⟩:=r8 e
    subst e
    have:b2=b:=by rw[hb] at hβ; exact(XK hβ).symm
    subst this
    refine⟨cs',by rw[hnew,r5,e1],by rw[e2,r4,e1]; exact hsz,fun k c hk=>?_⟩
    rw[e2] at hk
    obtain⟨u,hu,hcc⟩:=hc k c hk
    exact⟨u,hu,hBB _ _ hcc⟩
   ·have:=r7 e
    subst this
    have hne:b2≠b:=fun e2=>by subst e2; exact e (h.inj l l' ob o2 b2 hl r1 hlive hlive2 hb hβ)
    refine⟨cs2,by rw[hoth b2 hne]; exact g1,g2,fun k c hk=>?_⟩
    obtain⟨u,hu,hcc⟩:=g3 k c hk
    exact⟨u,hu,hBB _ _ hcc⟩
  nil:=fun l' o2 hl2 hlive2 hβ=>by
   obtain⟨o3,r1,r2,r3,r4,r5,r6,r7,r8⟩:=hsp l' o2 hl2
   have:=h.nil l' o3 r1 (by rw[← r2]; exact hlive2) hβ
   exact dh (by rw[r6,this]; rfl)
  inj:=fun l1 l2 o1 o2 b' h1 h2 h3 h4 h5 h6=>by
   obtain⟨p1,q1,r1,_⟩:=hsp l1 o1 h1
   obtain⟨p2,q2,r2,_⟩:=hsp l2 o2 h2
   exact h.inj l1 l2 p1 p2 b' q1 q2 (by rw[← r1]; exact h3) (by rw[← r2]; exact h4) h5 h6
  sep:=fun l' o2 b' o hl2 hlive2 hβ hbo=>by
   obtain⟨o3,r1,r2,r3,r4,r5,r6,r7,r8⟩:=hsp l' o2 hl2
   have:=h.sep l' o3 b' o r1 (by rw[← r2]; exact hlive2) hβ hbo
   rw[r3,r6,r4]; exact this
  own:=by
   refine h.own.move id (fun x hx=>?_) (fun _ _ h=>h) hcell (fun l' o2 b2 k c hl2 hlive2 hβ hk hcw=>?_) (fun _ _ _ _ _ _ _ _ e=>e)
   ·have hxb:x≠b:=fun e=>hx.2.2.2.2 l ob hl hlive (by rw[hb,e])
    exact⟨⟨hx.1,fun h=>h,by simpa [World.setRow] using hx.2.2.1,hx.2.2.2.1,fun l' o2 hl' hlv=>by
     obtain⟨o3,r1,r2,_⟩:=hsp l' o2 hl'
     exact hx.2.2.2.2 l' o3 r1 (by rw[← r2]; exact hlv)⟩,hoth x hxb⟩
   ·obtain⟨o3,r1,r2,r3,r4,r5,r6,r7,r8⟩:=hsp l' o2 hl2
    by_cases e:l=l'
    ·obtain⟨e1,e2⟩:=r8 e
     subst e
     have eb:b2=b:=by rw[hb] at hβ; exact(XK hβ).symm
     subst eb
     rw[e2] at hk
     obtain⟨g1,g2⟩:=how k c hk hcw
     refine⟨ob,b2,hl,hlive,hb,g1, ?_⟩
     simp[World.cell?,hnew,hcs,g2]
    ·have:=r7 e
     subst this
     have hne:b2≠b:=fun e2=>by subst e2; exact e (h.inj l l' ob o2 b2 hl r1 hlive hlive2 hb hβ)
     exact⟨o2,b2,r1,hlive2,hβ,hk,cell_of_block (hoth b2 hne)⟩ }
end Go.Vm
