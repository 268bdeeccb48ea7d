/- A part. -/
import Derived.Test.YtnfbaclikokapaaGreatVmF
set_option linter.unusedSimpArgs false
set_option linter.unusedVariables false
namespace Go.Vm
open Go.RowKit
theorem Rn {P:Program} {T:TypeId} {f fo:Nat} {ft:TypeId} (h:AB P T f=some (fo,ft)):∃ (fs:Array Field) (x:Field),P.underlying T=some (.struct fs)∧fs[f]?=some x∧x.offset=fo∧x.type=ft:=by
 unfold AB at h
 grind
theorem LJ {P:Program} {T e:TypeId} (h:DZ P T=some e):P.underlying T=some (.slice e):=by
 unfold DZ at h
 grind
def Gives (P:Program) (a:Act) (w:World) (St:Nat→Nat→Prop) (st:List Ob) (β:Nat→Option Nat) (o:Oper) (x:AV):Prop:=
 ∃ v,(execOp a.eval o).run P w = .ok (.value v) w∧AVR w St st β x v
variable {P:Program} {w0:Bs} {St0 St:Nat→Nat→Prop} {β:Nat→Option Nat} {s:MS} {a:Act} {w:World}
theorem AEf (h:Core w0 St0 St β s a w) (o:Oper) (T:TypeId) (x:Operand) (ho:o.op = .load T x) (hc:Ar x=true) {y:AV} (hy:Hr P s (.load T x)=some y):Gives P a w St s.st β o y:=by
 have he:=Bl h x hc
 simp only[Hr] at hy
 split at hy
 ·rename_i n g hs hg
  split at hy
  ·rename_i l i off hev
   split at hy
   ·rename_i ob hob
    split at hy
    ·rename_i row hrow
     split at hy
     ·rename_i y0 hcut
      split at hy
      ·rename_i hno
       simp only[ah] at hy
       subst hy
       rw[hev] at he
       obtain⟨b,cs,hb,hu,g1,g2,g3⟩:=wG h he hob
       obtain⟨v,hv,hr⟩:=wF (P:=P) (T:=T) (yf g1 g2 g3 hrow) hs hg hcut hno
       exact⟨v,by simp[execOp,ho,hu,hv],hr⟩
      ·cases hy
     ·cases hy
    ·cases hy
   ·cases hy
  ·rename_i row hev
   rw[hev] at he
   simp only[AVR] at he
   obtain⟨b,off,hu,hr⟩:=he
   obtain⟨v,hv,hr2⟩:=wF (P:=P) (w:=w) (St:=St) (st:=s.st) (β:=β) (T:=T) (row:=row) (b:=b) (o:=off) (off:=0) (fun j c hj=>by
    obtain⟨_,u,hu1,hu2⟩:=hr.at j c hj
    refine⟨u,hu1, ?_⟩
    cases c with
    | ref l=>simp[RdD] at hu2
    | v x=>exact hu2
    | sl xs=>exact hu2
    | ow ty sz xs=>simp[RdD] at hu2) hs hg hy (yc (fun j c hj=>by
     obtain⟨_,u,hu1,hu2⟩:=hr.at j c hj
     cases c with
     | ow ty sz xs=>simp[RdD] at hu2
     | _=>rfl) hy)
   exact⟨v,by simp only[abB] at hv; simp[execOp,ho,hu,hv],hr2⟩
  ·cases hy
 ·cases hy
theorem ACf (h:Core w0 St0 St β s a w) (o:Oper) (T:TypeId) (x:Operand) (f:Nat) (ho:o.op = .field T x f) (hc:Ar x=true) {y:AV} (hy:Hr P s (.field T x f)=some y):Gives P a w St s.st β o y:=by
 have he:=Bl h x hc
 simp only[Hr] at hy
 split at hy
 ·rename_i fo ft hf
  split at hy
  ·rename_i n g row hs hg hev
   rw[hev] at he
   simp only[AVR] at he
   obtain⟨us,hu,h1,h2⟩:=he
   obtain⟨fs,fx,q1,q2,q3,q4⟩:=Rn hf
   obtain⟨v,hv,hr⟩:=ACd (P:=P) h1 h2 hs hg hy
   subst q3 q4
   exact⟨v,by simp[execOp,ho,Instr.field,run_underlying q1,q2,hu,asAgg,hv],hr⟩
  ·cases hy
 ·cases hy
theorem nV (h:Core w0 St0 St β s a w) (o:Oper) (T:TypeId) (x:Operand) (f:Nat) (ho:o.op = .fieldAddr T x f) (hc:Ar x=true) {y:AV} (hy:Hr P s (.fieldAddr T x f)=some y):Gives P a w St s.st β o y:=by
 have he:=Bl h x hc
 simp only[Hr] at hy
 split at hy
 ·rename_i fo ft hf
  obtain⟨fs,fx,q1,q2,q3,q4⟩:=Rn hf
  subst q3 q4
  split at hy
  ·rename_i m hs
   have hrun:∀ b off,(Instr.fieldAt T (.pointer (some ⟨b,off,none⟩)) f).run P w = .ok (.pointer (some ⟨b,off+fx.offset,none⟩)) w:=by
    intro b off
    simp[Instr.fieldAt,run_underlying q1,q2,Instr.sureAddr,fieldPlace,Ha hs,addr_add]
   split at hy
   ·rename_i l i off hev
    split at hy
    ·rename_i ob hob
     simp only[ah] at hy
     subst hy
     rw[hev] at he
     obtain⟨b,cs,hb,hu,_⟩:=wG h he hob
     refine⟨_,by simp[execOp,ho,hu,hrun]; rfl, ?_⟩
     obtain⟨hl,_⟩:=Aw hob
     simp only[AVR,hl]
     grind
    ·cases hy
   ·rename_i row hev
    simp only[ah] at hy
    subst hy
    rw[hev] at he
    simp only[AVR] at he
    obtain⟨b,off,hu,hr⟩:=he
    refine⟨_,by simp[execOp,ho,hu,hrun]; rfl, ?_⟩
    simp only[AVR]
    exact⟨b,_,rfl,hr.drop _⟩
   ·cases hy
  ·cases hy
 ·cases hy
theorem run_indexAt {T e:TypeId} {n:Nat} (ht:P.underlying T=some (.slice e)) (hs:AZ P e=some n) {b off len cap k:Nat} {kd:IntKind} (hk:k<len) :
  (Instr.indexAt T (.slice (some ⟨b,off,none⟩) len cap) (.int kd (k:Int))).run P w = .ok (.pointer (some ⟨b,off+k*n,none⟩)) w:=by
 have h1:¬ len≤k:=by omega
 simp[Instr.indexAt,asIntOf,run_underlying ht,Ha hs,addr_add,h1]
theorem nX (h:Core w0 St0 St β s a w) (o:Oper) (T:TypeId) (x ix:Operand) (ho:o.op = .indexAddr T x ix) (hc:Ar x=true) (hc2:Ar ix=true) {y:AV} (hy:Hr P s (.indexAddr T x ix)=some y):Gives P a w St s.st β o y:=by
 have he:=Bl h x hc
 have hi:=Bl h ix hc2
 simp only[Hr] at hy
 split at hy
 ·rename_i e hte
  have ht:=LJ hte
  split at hy
  ·rename_i n k hs hk
   obtain⟨kd,hi2⟩:=ik hi hk
   split at hy
   ·rename_i xs hev
    split at hy
    ·rename_i row hrow
     split at hy
     ·rename_i hlen
      simp only[ah] at hy
      subst hy
      rw[hev] at he
      simp only[AVR,RdC,RdD] at he
      obtain⟨ad,cap,hu,h2,h3,⟨sz,h4⟩,h5⟩:=he
      have hkl:k<xs.length:=(az.1 hrow).1
      rcases h5 with rfl | ⟨b,off,rfl,h6⟩
      ·simp at hkl
      ·have hsz:sz=n:=by rw[← hlen]; exact(h4 row (aY hrow)).symm
       subst hsz
       refine⟨_,by simp[execOp,ho,hu,hi2,run_indexAt ht hs hkl]; rfl, ?_⟩
       simp only[AVR]
       exact⟨b,_,rfl,h6.at sz h4 k row hrow⟩
     ·cases hy
    ·cases hy
   ·rename_i l hev
    split at hy
    ·rename_i ob hob
     split at hy
     ·rename_i hkl
      obtain⟨hkl,hsz⟩:=hkl
      simp only[ah] at hy
      subst hy
      rw[hev] at he
      obtain⟨hl,hlive⟩:=Aw hob
      simp only[AVR,RdC,A_,hl] at he
      have h2:=he.2 hlive
      split at h2
      ·grind
      ·rename_i b hb
       obtain⟨cap,cs,hu,h3,h4,_⟩:=h2
       refine⟨_,by simp[execOp,ho,hu,hi2,run_indexAt ht hs hkl]; rfl, ?_⟩
       simp only[AVR,hl]
       grind
     ·cases hy
    ·cases hy
   ·cases hy
  ·cases hy
 ·cases hy
theorem AGM (h:Core w0 St0 St β s a w) (o:Oper) (c:Call) (ho:o.op = .call c) (hcl:c.callee = .builtin .len) (hc:c.args.toList.all Ar=true) {y:AV} (hy:Hr P s (.call c)=some y):Gives P a w St s.st β o y:=by
 simp only[Hr,hcl] at hy
 split at hy
 ·rename_i t x hat hax
  have hx:Ar x=true:=by rw[hax] at hc; simpa using hc
  have he:=Bl h x hx
  have ha1:c.argTypes = #[t]:=by have:=congrArg List.toArray hat; simpa using this
  have ha2:c.args = #[x]:=by have:=congrArg List.toArray hax; simpa using this
  split at hy
  ·rename_i b hu hev
   simp only[ah] at hy
   subst hy
   rw[hev] at he
   obtain⟨hv,hw⟩:=Nb he
   refine⟨.int .i64 b.size, ?_,U2 (AAv (by simpa [O9] using hw))⟩
   simp[execOp,ho,resolve,hcl,ha1,ha2,invoke,builtin,Builtin.len_,run_underlying hu,hv,goInt]
  ·rename_i e d hu hev
   split at hy
   ·rename_i xs hd
    simp only[ah] at hy
    subst hy
    rw[hev] at he
    simp only[AVR] at he
    obtain⟨ad,cap,hv,h1,h2⟩:=nU h he hd
    refine⟨.int .i64 xs.length, ?_,U2 (AAv (by omega))⟩
    simp[execOp,ho,resolve,hcl,ha1,ha2,invoke,builtin,Builtin.len_,run_underlying hu,hv,goInt]
   ·cases hy
  ·cases hy
 ·cases hy
theorem AAw (h:Core w0 St0 St β s a w) (o:Oper) (c:Call) (ho:o.op = .call c) (hcl:c.callee = .builtin .min∨c.callee = .builtin .max) (hc:c.args.toList.all Ar=true) {y:AV} (hy:Hr P s (.call c)=some y):Gives P a w St s.st β o y:=by
 rcases hcl with hcl | hcl
 all_goals
  simp only[Hr,hcl] at hy
  split at hy
  ·rename_i x x2 hax
   have hx:Ar x=true∧Ar x2=true:=by rw[hax] at hc; simpa using hc
   have he:=Bl h x hx.1
   have he2:=Bl h x2 hx.2
   have ha2:c.args = #[x,x2]:=by have:=congrArg List.toArray hax; simpa using this
   split at hy
   ·rename_i p q hev hev2
    simp only[ah] at hy
    subst hy
    rw[hev] at he
    rw[hev2] at he2
    obtain⟨hv,hw⟩:=Nb he
    obtain⟨hv2,hw2⟩:=Nb he2
    refine⟨_, ?_,U2 ?_⟩
    rotate_left
    ·grind
    ·simp[execOp,ho,resolve,hcl,ha2,invoke,builtin,Builtin.min_,Builtin.max_,Builtin.min2,Builtin.max2,hv,hv2]
   ·cases hy
  ·cases hy
theorem ACg (h:Core w0 St0 St β s a w) (o:Oper) (T:TypeId) (x ix:Operand) (ho:o.op = .index T x ix) (hc:Ar x=true) (hc2:Ar ix=true) {y:AV} (hy:Hr P s (.index T x ix)=some y):Gives P a w St s.st β o y:=by
 have he:=Bl h x hc
 have hi:=Bl h ix hc2
 simp only[Hr] at hy
 split at hy
 ·rename_i hu
  split at hy
  ·rename_i b k hev hk
   obtain⟨kd,hi2⟩:=ik hi hk
   split at hy
   ·rename_i c hb
    simp only[ah] at hy
    subst hy
    rw[hev] at he
    obtain⟨hv,hw⟩:=Nb he
    refine⟨_, ?_,U2 (ACe c)⟩
    simp[execOp,ho,Instr.index,asIntOf,hi2,run_underlying hu,hv,hb]
   ·cases hy
  ·cases hy
 ·cases hy
theorem iq (h:Core w0 St0 St β s a w) (o:Oper) (hc:o.op.operands.toList.all Ar=true) {y:AV} (hy:Hr P s o.op=some y):Gives P a w St s.st β o y:=by
 obtain⟨dst,op,type,pos,after,guard⟩:=o
 simp only at hc hy
 cases op with
 | move x =>
  have he:=Bl h x (by simpa [Op.operands] using hc)
  simp only[Hr,ah] at hy; subst hy
  exact⟨_,by simp[execOp],he⟩
 | assign x =>
  have he:=Bl h x (by simpa [Op.operands] using hc)
  simp only[Hr,ah] at hy; subst hy
  exact⟨_,by simp[execOp],he⟩
 | pick c x1 x2 =>
  simp[Op.operands] at hc
  have he:=Bl h c hc.1
  have h1:=Bl h x1 hc.2.1
  have h2:=Bl h x2 hc.2.2
  simp only[Hr] at hy
  split at hy
  ·rename_i t hev
   simp only[ah] at hy; subst hy
   rw[hev] at he
   obtain⟨hv,_⟩:=Nb he
   cases t with
   | true=>exact⟨_,by simp[execOp,hv,asBool],h1⟩
   | false=>exact⟨_,by simp[execOp,hv,asBool],h2⟩
  ·cases hy
 | load T x=>exact AEf h _ T x rfl (by simpa [Op.operands] using hc) hy
 | nilCheck x =>
  have he:=Bl h x (by simpa [Op.operands] using hc)
  simp only[Hr] at hy
  split at hy
  ·rename_i l i off hev
   split at hy
   ·rename_i ob hob
    simp only[ah] at hy; subst hy
    rw[hev] at he
    obtain⟨b,cs,hb,hu,_⟩:=wG h he hob
    exact⟨_,by simp[execOp,hu]; rfl,by grind⟩
   ·cases hy
  ·rename_i row hev
   simp only[ah] at hy; subst hy
   rw[hev] at he
   have he':=he
   simp only[AVR] at he'
   obtain⟨b,off,hu,_⟩:=he'
   exact⟨_,by simp[execOp,hu]; rfl,by grind⟩
  ·rename_i f x1 x2 hev
   simp only[ah] at hy; subst hy
   rw[hev] at he
   obtain⟨hv,hw⟩:=Nb he
   exact⟨.func (.func f) x1 x2,by simp[execOp,hv],U2 hw⟩
  ·cases hy
 | binOp op T x1 x2 T2 =>
  simp[Op.operands] at hc
  have h1:=Bl h x1 hc.1
  have h2:=Bl h x2 hc.2
  simp only[Hr] at hy
  split at hy
  ·rename_i p q hev1 hev2
   split at hy
   ·rename_i r hr
    simp only[ah] at hy; subst hy
    rw[hev1] at h1
    rw[hev2] at h2
    obtain⟨hv1,hw1⟩:=Nb h1
    obtain⟨hv2,hw2⟩:=Nb h2
    obtain⟨hrun,hwf⟩:=ACc (P:=P) hw1 hr x1 x2 w
    refine⟨r, ?_,U2 hwf⟩
    simp only[execOp,hv1,hv2]
    rw[Sem.run_bind,hrun]
    rfl
   ·cases hy
  ·rename_i cs ds hev1 hev2
   rw[hev1] at h1
   rw[hev2] at h2
   simp only[AVR] at h1 h2
   obtain⟨us,hu1,hu2,hu3⟩:=h1
   obtain⟨vs,hv1,hv2,hv3⟩:=h2
   split at hy
   ·rename_i ks hks
    split at hy
    ·rename_i r hr
     obtain⟨k1,k2⟩:=nT (w:=w) hks hr (us:=us) (vs:=vs) (fun k x hk=>by
      obtain⟨z,hz,hc⟩:=hu3 k _ hk
      simp only[RdC,RdD] at hc
      rw[hz,hc.1]) (fun k x hk=>by
      obtain⟨z,hz,hc⟩:=hv3 k _ hk
      simp only[RdC,RdD] at hc
      rw[hz,hc.1]) x1 x2
     split at hy
     ·simp only[ah] at hy; subst hy
      refine⟨.bool r, ?_,U2 rfl⟩
      simp only[execOp,hu1,hv1]
      rw[Sem.run_bind,k1]
      rfl
     ·simp only[ah] at hy; subst hy
      refine⟨.bool (!r), ?_,U2 rfl⟩
      simp only[execOp,hu1,hv1]
      rw[Sem.run_bind,k2]
      rfl
     ·cases hy
    ·cases hy
   ·cases hy
  ·cases hy
 | unOp op T x =>
  have he:=Bl h x (by simpa [Op.operands] using hc)
  simp only[Hr] at hy
  split at hy
  ·rename_i p hev
   split at hy
   ·rename_i r hr
    simp only[ah] at hy; subst hy
    rw[hev] at he
    obtain⟨hv,hw⟩:=Nb he
    obtain⟨hrun,hwf⟩:=AEd (P:=P) hr w
    exact⟨r,by simp[execOp,hv,hrun],U2 hwf⟩
   ·cases hy
  ·cases hy
 | convert src dst x =>
  have he:=Bl h x (by simpa [Op.operands] using hc)
  simp only[Hr] at hy
  split at hy
  ·rename_i d1 k kd n hs1 hs2 hev
   simp only[ah] at hy; subst hy
   rw[hev] at he
   obtain⟨hv,hw⟩:=Nb he
   refine⟨_, ?_,U2 (v:=.int k (k.wrap n)) (by simp only[O9]; exact Go.wf_wrap _ _)⟩
   simp[execOp,hv,convert,run_underlying hs1,run_underlying hs2,Conv.intToInt]
  ·rename_i d1 b hs1 hs2 hev
   simp only[ah] at hy; subst hy
   rw[hev] at he
   obtain⟨hv,hw⟩:=Nb he
   refine⟨_, ?_,U2 (v:=.string b) hw⟩
   simp[execOp,hv,convert,run_underlying hs1,run_underlying hs2]
  ·rename_i e d _ hs1 hs2 hev
   split at hy
   ·rename_i xs he1 hdx
    split at hy
    ·rename_i ns hns
     simp only[ah] at hy; subst hy
     rw[hev] at he
     simp only[AVR] at he
     obtain⟨q1,q2⟩:=dN hns
     obtain⟨ad0,cap0,e0,e1,e2⟩:=nU h he hdx
     obtain⟨ad,cap,hu,_,hcells⟩:=Rl h he hdx
     have hsz:(strOfNums ns).size≤maxLen:=by rw[strOfNums_size,q1]; omega
     refine⟨.string (strOfNums ns), ?_,U2 (v:=.string (strOfNums ns)) (by simp only[O9,bf]; exact hsz)⟩
     have key:(convert src dst (a.eval x)).run P w = .ok (.string (strOfNums ns)) w:=by
      rw[hu]
      rcases hcells with rfl | ⟨b,off,rfl,hc2⟩
      ·have:ns = []:=zu q1
       subst this
       rw[hu] at e0
       cases ad with
       | none=>exact run_convert_bytes_nil w src e hs1 he1 _ _ dst hs2
       | some ad =>
        have:=run_convert_bytes_string (P:=P) w src dst e (some ad) 0 cap hs1 he1 hs2
        simp only[X5]
        rw[this,run_bytesToString w ad 0 cap [] (run_loadCells_list (P:=P) w ad [] (fun j v hj=>by simp at hj))]
        rfl
      ·refine run_convert_bytes_arg w src e hs1 he1 b off xs.length cap ns q1 (fun i hi=>?_) dst hs2
       have hin:i<ns.length:=by omega
       have hf:=q2 i ns[i] (by simp[hin])
       obtain⟨v,hv,hr⟩:=hc2 i _ hf
       have hr2:=hr.toC rfl
       simp only[RdC,RdD] at hr2
       grind
     simp only[execOp,Sem.run_bind,key,Result.andThen_ok,Sem.run_pure]
    ·cases hy
   ·cases hy
  ·cases hy
 | fieldAddr T x f=>exact nV h _ T x f rfl (by simpa [Op.operands] using hc) hy
 | field T x f=>exact ACf h _ T x f rfl (by simpa [Op.operands] using hc) hy
 | indexAddr T x ix =>
  simp[Op.operands] at hc
  grind [nX]
 | index T x ix =>
  simp[Op.operands] at hc
  grind [ACg]
 | extract x ix =>
  have he:=Bl h x (by simpa [Op.operands] using hc)
  simp only[Hr] at hy
  split at hy
  ·rename_i xs hev
   rw[hev] at he
   simp only[AVR] at he
   obtain⟨us,hu,h1⟩:=he
   obtain⟨u,hu1,hu2⟩:=ig h1 ix y hy
   exact⟨u,by simp[execOp,hu,Instr.extract,hu1],hu2⟩
  ·cases hy
 | call c =>
  have hca:c.args.toList.all Ar=true:=by
   simp only[Op.operands,Call.operands,aaO,Zi,ak] at hc
   exact hc.2
  by_cases h1:c.callee = .builtin .len
  ·grind [AGM]
  ·by_cases h2:c.callee = .builtin .min∨c.callee = .builtin .max
   ·grind [AAw]
   ·simp only[Hr] at hy
    grind
 | _=>simp[Hr] at hy
theorem iw {l:Nat} {u:Value} {st:List Ob} (h:A_ w st β l u):l<st.length:=by
 unfold A_ at h
 grind
theorem tC {l i off:Nat} {u:Value} {st:List Ob} (h:AVR w St st β (.lp l i off) u):l<st.length:=by
 simp only[AVR] at h
 grind
theorem Core.newObB (h:Core w0 St0 St β s a w) {w':World} (hb:Below w.heap.size w w') (ob:Ob) (ob':Option Nat) (hwr:ob.live=true)
  (hnone:ob'=none→ob.xs = []) (hsome:∀ b,ob'=some b→w.heap.size≤b∧b<w'.heap.size∧∃ cs:Array Value,w'.heap[b]?=some (.cells cs ob.ty (0,0))∧(∀ x∈ob.xs,x.length=ob.sz) ∧
   ∀ (k:Nat) (c:Cl),ob.xs.flatten[k]?=some c→∃ u,cs[k]?=some u∧RdB w St s.st β c u)
  (hown:Own w0 (fun _=>False) w' St (s.st ++ [ob]) (fun l=>if l=s.st.length then ob' else β l)) :
  ∃ β',Core w0 St0 St β' ⟨s.n,s.env,s.st ++ [ob]⟩ a w'∧β' s.st.length=ob'∧(∀ x u,AVR w St s.st β x u→AVR w' St (s.st ++ [ob]) β' x u)∧(∀ x u,RdC w St s.st β x u→RdC w' St (s.st ++ [ob]) β' x u):=by
 refine⟨fun l=>if l=s.st.length then ob' else β l, ?_⟩
 have hw0:w0.heap.size≤w.heap.size:=h.below.size
 have hblk:∀ k,k<w.heap.size→w'.heap[k]?=w.heap[k]?:=hb.block
 have hcell:∀ b o,St b o→w'.cell? ⟨b,o,none⟩=w.cell? ⟨b,o,none⟩:=fun b o hbo=>cell_of_block (hblk b (h.stIn b o hbo))
 have hold:∀ l,l<s.st.length→(s.st ++ [ob])[l]?=s.st[l]?:=fun l hl=>by grind
 have hr:∀ l u,A_ w s.st β l u→A_ w' (s.st ++ [ob]) (fun l=>if l=s.st.length then ob' else β l) l u:=by
  intro l u hu
  have hl:=iw hu
  unfold A_ at hu ⊢
  rw[hold l hl]
  have hne:¬ l=s.st.length:=by omega
  simp only[hne,aT]
  cases hq:s.st[l]? with
  | none=>grind
  | some o2 =>
   grind
 have hp:∀ l i off u,AVR w St s.st β (.lp l i off) u→AVR w' St (s.st ++ [ob]) (fun l=>if l=s.st.length then ob' else β l) (.lp l i off) u:=by
  intro l i off u hu
  have hl:=tC hu
  have hne:¬ l=s.st.length:=by omega
  simp only[AVR,hold l hl,hne,aT] at hu ⊢
  exact hu
 have hA:∀ x u,AVR w St s.st β x u→AVR w' St (s.st ++ [ob]) (fun l=>if l=s.st.length then ob' else β l) x u:=fun x u hx=>AVR.mono (fun _ _ h=>h) hcell hr hp x u hx
 have hC:∀ x u,RdC w St s.st β x u→RdC w' St (s.st ++ [ob]) (fun l=>if l=s.st.length then ob' else β l) x u:=fun x u hx=>RdC.mono (fun _ _ h=>h) hcell hr x u hx
 have hBB:∀ x u,RdB w St s.st β x u→RdB w' St (s.st ++ [ob]) (fun l=>if l=s.st.length then ob' else β l) x u:=fun x u hx=>RdB.mono (fun _ _ h=>h) hcell hr x u hx
 have hsplit:∀ l o2,(s.st ++ [ob])[l]?=some o2→(l<s.st.length∧s.st[l]?=some o2)∨(l=s.st.length∧o2=ob):=by
  intro l o2 hl
  rcases bI l s.st.length with h1 | h1
  ·grind
  ·grind
 refine⟨?_,by simp,hA,hC⟩
 exact {
  defers:=h.defers
  size:=h.size
  lim:=h.lim
  env:=fun i=>hA _ _ (h.env i)
  below:=h.below.grow hb
  st0:=h.st0
  stOld:=h.stOld
  stIn:=fun b o hbo=>bn (h.stIn b o hbo) hb.size
  obs:=fun l o2 b hl hlive hβ=>by
   rcases hsplit l o2 hl with ⟨h1,h2⟩ | ⟨rfl,rfl⟩
   ·have hne:¬ l=s.st.length:=by omega
    simp only[hne,aT] at hβ
    obtain⟨q1,q2,q3⟩:=h.obs l o2 b h2 hlive hβ
    refine⟨q1,bn q2 hb.size, ?_⟩
    obtain⟨cs,g1,g2,g3⟩:=q3
    refine⟨cs,by grind,g2,fun k c hk=>?_⟩
    grind
   ·simp only[bD] at hβ
    obtain⟨q1,q2,cs,g1,g2,g3⟩:=hsome b hβ
    refine⟨.inl (Nat.le_trans hw0 q1),q2,cs,g1,g2,fun k c hk=>?_⟩
    grind
  nil:=fun l o2 hl hlive hβ=>by
   rcases hsplit l o2 hl with ⟨h1,h2⟩ | ⟨rfl,rfl⟩
   ·have hne:¬ l=s.st.length:=by omega
    simp only[hne,aT] at hβ
    exact h.nil l o2 h2 hlive hβ
   grind
  inj:=fun l1 l2 o1 o2 b h1 h2 h3 h4 h5 h6=>by
   rcases hsplit l1 o1 h1 with ⟨p1,p2⟩ | ⟨rfl,rfl⟩<;>rcases hsplit l2 o2 h2 with ⟨q1,q2⟩ | ⟨rfl,rfl⟩
   ·have e1:¬ l1=s.st.length:=by omega
    have e2:¬ l2=s.st.length:=by omega
    simp only[e1,e2,aT] at h5 h6
    exact h.inj l1 l2 o1 o2 b p2 q2 h3 h4 h5 h6
   ·have e1:¬ l1=s.st.length:=by omega
    simp only[e1,aT,bD] at h5 h6
    have:=(h.obs l1 o1 b p2 h3 h5).2.1
    grind
   ·have e1:¬ l2=s.st.length:=by omega
    simp only[e1,aT,bD] at h5 h6
    have:=(h.obs l2 o2 b q2 h4 h6).2.1
    grind
   ·rfl
  sep:=fun l o2 b o hl hlive hβ hbo=>by
   rcases hsplit l o2 hl with ⟨h1,h2⟩ | ⟨rfl,rfl⟩
   ·have hne:¬ l=s.st.length:=by omega
    simp only[hne,aT] at hβ
    exact h.sep l o2 b o h2 hlive hβ hbo
   ·simp only[bD] at hβ
    have:=(hsome b hβ).1
    have:=h.stIn b o hbo
    omega
  own:=hown }
theorem Core.newOb (h:Core w0 St0 St β s a w) {w':World} (hb:Below w.heap.size w w') (ob:Ob) (ob':Option Nat) (hwr:ob.live=true)
  (hnone:ob'=none→ob.xs = []) (hsome:∀ b,ob'=some b→w.heap.size≤b∧b<w'.heap.size∧∃ cs:Array Value,w'.heap[b]?=some (.cells cs ob.ty (0,0))∧(∀ x∈ob.xs,x.length=ob.sz) ∧
   ∀ (k:Nat) (c:Cl),ob.xs.flatten[k]?=some c→∃ u,cs[k]?=some u∧RdC w St s.st β c u) :
  ∃ β',Core w0 St0 St β' ⟨s.n,s.env,s.st ++ [ob]⟩ a w'∧β' s.st.length=ob'∧(∀ x u,AVR w St s.st β x u→AVR w' St (s.st ++ [ob]) β' x u)∧(∀ x u,RdC w St s.st β x u→RdC w' St (s.st ++ [ob]) β' x u):=by
 refine h.newObB hb ob ob' hwr hnone (fun b hb'=>?_) ?_
 ·obtain⟨q1,q2,cs,g1,g2,g3⟩:=hsome b hb'
  refine⟨q1,q2,cs,g1,g2,fun k c hk=>?_⟩
  obtain⟨u,hu,hc⟩:=g3 k c hk
  exact⟨u,hu,hc.toB⟩
 ·refine h.own.move id (fun x hx=>⟨⟨hx.1,fun h=>h,bn hx.2.2.1 hb.size,hx.2.2.2.1,fun l o2 hl hlv=>?_⟩,hb.block x hx.2.2.1⟩) (fun _ _ h=>h)
   (fun b o hbo=>cell_of_block (hb.block b (h.stIn b o hbo))) (fun l o2 b k c hl hlive hβ hk hc=>?_) (fun _ _ _ _ _ _ _ _ e=>e)
  ·by_cases e:l=s.st.length
   ·simp only[e,bD]
    intro hb'
    have:=(hsome x hb').1
    have:=hx.2.2.1
    omega
   ·simp only[e,aT]
    have hlt:l<s.st.length:=by
     have:=(az.1 hl).1
     simp at this
     omega
    rw[aZ hlt] at hl
    exact hx.2.2.2.2 l o2 hl hlv
  ·by_cases e:l=s.st.length
   ·subst e
    rw[aX (aN _)] at hl
    simp only[dM,aB,ah] at hl
    subst hl
    simp only[bD] at hβ
    obtain⟨_,_,cs,_,_,g3⟩:=hsome b hβ
    obtain⟨u,_,hr⟩:=g3 k c hk
    rw[hr.notOw] at hc
    cases hc
   ·simp only[e,aT] at hβ
    have hlt:l<s.st.length:=by
     have:=(az.1 hl).1
     simp at this
     omega
    rw[aZ hlt] at hl
    exact⟨o2,b,hl,hlive,hβ,hk,cell_of_block (hb.block b (h.obs l o2 b hl hlive hβ).2.1)⟩
theorem Vr (w:World) (o:Obj):Below w.heap.size w (w.alloc o):=(Below.refl _ _).alloc (aN _) o
theorem alloc_at (w:World) (o:Obj):(w.alloc o).heap[w.heap.size]?=some o:=by
 show (w.heap.push o)[w.heap.size]?=_
 simp
theorem Core.newCells (h:Core w0 St0 St β s a w) (ty:TypeId) (sz:Nat) (xs:List (List Cl)) (cs:Array Value) (hl:∀ x∈xs,x.length=sz)
  (hc:∀ (k:Nat) (c:Cl),xs.flatten[k]?=some c→∃ u,cs[k]?=some u∧RdC w St s.st β c u) :
  ∃ β',Core w0 St0 St β' ⟨s.n,s.env,s.st ++ [⟨ty,sz,xs,true,true⟩]⟩ a (w.alloc (.cells cs ty))∧β' s.st.length=some w.heap.size∧(∀ x u,AVR w St s.st β x u→AVR (w.alloc (.cells cs ty)) St (s.st ++ [⟨ty,sz,xs,true,true⟩]) β' x u):=by
 obtain⟨β',h1,h2,h3,_⟩:=h.newOb (Vr w (.cells cs ty)) ⟨ty,sz,xs,true,true⟩ (some w.heap.size) rfl (by simp) (fun b hb=>by
  grind [ah,alloc_at])
 grind
def Does (P:Program) (a:Act) (w:World) (w0:Bs) (St0:Nat→Nat→Prop) (s:MS) (o:Oper) (y:AV) (st':List Ob):Prop:=
 ∃ nx v w' St' β',(execOp a.eval o).run P w = .ok nx w'∧(nx = .value v∨(nx = .skip∧v=Go.undef))∧Core w0 St0 St' β' ⟨s.n,s.env,st'⟩ a w'∧AVR w' St' st' β' y v
def OO (P:Program) (s:MS) (T:TypeId):Option (AV×List Ob):=match TQ P T with
 | some cs=>some (.lp s.st.length 0 0,s.st ++ [⟨T,cs.length,[cs],true,true⟩])
 | none=>none
def AAx (s:MS) (T:TypeId) (x:AV):Option (AV×List Ob):=match cellsA x with
 | some cs=>some (.lp s.st.length 0 0,s.st ++ [⟨T,cs.length,[cs],true,true⟩])
 | none=>none
def X8 (P:Program) (s:MS) (T:TypeId) (p x:AV):Option (AV×List Ob):=match AZ P T,p,cellsA x with
 | some n,.lp l i off,some cs=>match CO s.st l with
  | some ob=>if ob.wr=true∧cs.length=n then match ob.xs[i]? with
   | some row=>if off+n≤row.length then some (.undef,s.st.set l { ob with xs:=ob.xs.set i (row.take off++(cs++row.drop (off+n))) }) else none
   | none=>none
   else none
  | none=>none
 | _,_,_=>none
theorem AAy (h:Core w0 St0 St β s a w) (o:Oper) (T:TypeId) (ho:o.op = .alloc T) {y:AV} {st':List Ob} (hy:OO P s T=some (y,st')):Does P a w w0 St0 s o y st':=by
 unfold OO at hy
 split at hy
 ·rename_i cs0 hz0
  ·obtain⟨zs,hz,hwf,rfl⟩:=PW hz0
   simp only[ah,bJ] at hy
   obtain⟨rfl,rfl⟩:=hy
   obtain⟨z,hz1,hz2⟩:=TS hz w
   obtain⟨β',h1,h2,_⟩:=h.newCells T (zs.map Cl.v).length [zs.map .v] z.cells (by simp) (fun k c hk=>by
    simp only[bT,Zh,bF,lD,yQ] at hk
    obtain⟨v,hv,rfl⟩:=hk
    refine⟨v,by grind, ?_⟩
    simp only[RdC,RdD,true_and]
    exact aF.1 hwf v (aY hv))
   refine⟨_,.pointer (some ⟨w.heap.size,0,none⟩),_,St,β', ?_,.inl rfl,h1, ?_⟩
   ·simp[execOp,ho,Instr.alloc,hz1,newVar,newRow]
   ·simp[AVR,h2]
 ·cases hy
theorem AEg (h:Core w0 St0 St β s a w) (o:Oper) (T:TypeId) (x:Operand) (ho:o.op = .box T x) (hc:Ar x=true) {y:AV} {st':List Ob} (hy:AAx s T (EC s x)=some (y,st')):Does P a w w0 St0 s o y st':=by
 have he:=Bl h x hc
 unfold AAx at hy
 split at hy
 ·rename_i cs hcs
  simp only[ah,bJ] at hy
  obtain⟨rfl,rfl⟩:=hy
  obtain⟨q1,q2⟩:=Qa he hcs
  obtain⟨β',h1,h2,_⟩:=h.newCells T cs.length [cs] (a.eval x).cells (by simp) (fun k c hk=>by
   grind)
  refine⟨_,.pointer (some ⟨w.heap.size,0,none⟩),_,St,β', ?_,.inl rfl,h1, ?_⟩
  ·simp[execOp,ho,Instr.box,newVar,newRow]
  ·simp[AVR,h2]
 ·cases hy
theorem Core.write (h:Core w0 St0 St β s a w) {l:Nat} {ob:Ob} (hob:CO s.st l=some ob) (hwr:ob.wr=true) {b:Nat} (hb:β l=some b) (xs':List (List Cl)) (hlen:xs'.length=ob.xs.length) (hsz:∀ x∈xs',x.length=ob.sz)
  {cs cs':Array Value} (hcs:w.heap[b]?=some (.cells cs ob.ty (0,0))) (hsize:cs'.size=cs.size) (hc:∀ (k:Nat) (c:Cl),xs'.flatten[k]?=some c→∃ u,cs'[k]?=some u∧RdB w St s.st β c u)
  (how:∀ (k:Nat) (c:Cl),xs'.flatten[k]?=some c→E8 c=true→ob.xs.flatten[k]?=some c∧cs'[k]?=cs[k]?) :
  Core w0 St0 St β ⟨s.n,s.env,s.st.set l { ob with xs:=xs' }⟩ a (w.setRow b cs'):=by
 obtain⟨hl,hlive⟩:=Aw hob
 obtain⟨hB,hlt,_⟩:=h.obs l ob b hl hlive hb
 have hnew:(w.setRow b cs').heap[b]?=some (.cells cs' ob.ty (0,0)):=setRow_heap w b cs cs' ob.ty (0,0) hcs
 have hoth:∀ k,k≠b→(w.setRow b cs').heap[k]?=w.heap[k]?:=fun k hk=>setRow_other w b k cs' hk
 have hbelow:BelowB w0 (w.setRow b cs'):=h.below.step (n:=0) ⟨rfl,rfl,rfl,by simp_all,fun k hk=>absurd hk (Nat.not_lt_zero _)⟩ (fun k h1 h2=>hoth k fun e=>by
  subst e
  rcases hB with h' | h'
  ·omega
  grind) fun k hk=>by
  grind [iY,sW]
 have hcell:∀ b' o,St b' o→(w.setRow b cs').cell? ⟨b',o,none⟩=w.cell? ⟨b',o,none⟩:=fun b' o hbo=>by
  have hne:b'≠b:=fun e=>by
   subst e
   have:=(h.sep l ob b' o hl hlive hb hbo).1
   grind
  grind [cell_of_block]
 have hll:l<s.st.length:=(az.1 hl).1
 have hget:∀ l',(s.st.set l { ob with xs:=xs' })[l']?=if l=l' then some { ob with xs:=xs' } else s.st[l']?:=fun l'=>by
  grind
 have hr:∀ l' u,A_ w s.st β l' u→A_ (w.setRow b cs') (s.st.set l { ob with xs:=xs' }) β l' u:=by
  intro l' u hu
  unfold A_ at hu ⊢
  rw[hget l']
  by_cases e:l=l'
  ·grind
  ·simp only[e,aT]
   cases hq:s.st[l']? with
   | none=>grind
   | some o2 =>
    grind
 have hp:∀ l' i off u,AVR w St s.st β (.lp l' i off) u→AVR (w.setRow b cs') St (s.st.set l { ob with xs:=xs' }) β (.lp l' i off) u:=by
  intro l' i off u hu
  simp only[AVR,hget l'] at hu ⊢
  by_cases e:l=l'
  ·grind
  ·grind
 have hC:∀ x u,RdC w St s.st β x u→RdC (w.setRow b cs') St (s.st.set l { ob with xs:=xs' }) β x u:=fun x u hx=>RdC.mono (fun _ _ h=>h) hcell hr x u hx
 have hBB:∀ x u,RdB w St s.st β x u→RdB (w.setRow b cs') St (s.st.set l { ob with xs:=xs' }) β x u:=fun x u hx=>RdB.mono (fun _ _ h=>h) hcell hr x u hx
 have hsp:∀ l' o2,(s.st.set l { ob with xs:=xs' })[l']?=some o2→∃ o3,s.st[l']?=some o3∧o2.live=o3.live∧o2.wr=o3.wr∧o2.sz=o3.sz∧o2.ty=o3.ty∧o2.xs.length=o3.xs.length∧(l≠l'→o2=o3)∧(l=l'→o3=ob∧o2.xs=xs'):=by
  intro l' o2 h2
  rw[hget l'] at h2
  by_cases e:l=l'
  ·grind
  ·grind
 exact {
  defers:=h.defers
  size:=h.size
  lim:=h.lim
  env:=fun i=>AVR.mono (fun _ _ h=>h) hcell hr hp _ _ (h.env i)
  below:=hbelow
  st0:=h.st0
  stOld:=h.stOld
  stIn:=fun b' o hbo=>by simpa [World.setRow] using h.stIn b' o hbo
  obs:=fun l' o2 b2 hl2 hlive2 hβ=>by
   obtain⟨o3,r1,r2,r3,r4,r5,r6,r7,r8⟩:=hsp l' o2 hl2
   obtain⟨q1,q2,cs2,g1,g2,g3⟩:=h.obs l' o3 b2 r1 (by grind) hβ
   refine⟨q1,by grind, ?_⟩
   by_cases e:l=l'
   ·obtain⟨e1,e2⟩:=r8 e
    subst e
    have:b2=b:=by rw[hb] at hβ; exact(rC hβ).symm
    subst this
    refine⟨cs',by grind,by grind,fun k c hk=>?_⟩
    grind
   ·have:=r7 e
    subst this
    have hne:b2≠b:=fun e2=>by subst e2; exact e (h.inj l l' ob o2 b2 hl r1 hlive hlive2 hb hβ)
    refine⟨cs2,by grind,g2,fun k c hk=>?_⟩
    grind
  nil:=fun l' o2 hl2 hlive2 hβ=>by
   obtain⟨o3,r1,r2,r3,r4,r5,r6,r7,r8⟩:=hsp l' o2 hl2
   have:=h.nil l' o3 r1 (by grind) hβ
   grind
  inj:=fun l1 l2 o1 o2 b' h1 h2 h3 h4 h5 h6=>by
   obtain⟨p1,q1,r1,_⟩:=hsp l1 o1 h1
   obtain⟨p2,q2,r2,_⟩:=hsp l2 o2 h2
   exact h.inj l1 l2 p1 p2 b' q1 q2 (by grind) (by grind) h5 h6
  sep:=fun l' o2 b' o hl2 hlive2 hβ hbo=>by
   obtain⟨o3,r1,r2,r3,r4,r5,r6,r7,r8⟩:=hsp l' o2 hl2
   have:=h.sep l' o3 b' o r1 (by grind) hβ hbo
   grind
  own:=by
   refine h.own.move id (fun x hx=>?_) (fun _ _ h=>h) hcell (fun l' o2 b2 k c hl2 hlive2 hβ hk hcw=>?_) (fun _ _ _ _ _ _ _ _ e=>e)
   ·have hxb:x≠b:=fun e=>hx.2.2.2.2 l ob hl hlive (by rw[hb,e])
    exact⟨⟨hx.1,fun h=>h,by simpa [World.setRow] using hx.2.2.1,hx.2.2.2.1,fun l' o2 hl' hlv=>by
     obtain⟨o3,r1,r2,_⟩:=hsp l' o2 hl'
     exact hx.2.2.2.2 l' o3 r1 (by grind)⟩,hoth x hxb⟩
   ·obtain⟨o3,r1,r2,r3,r4,r5,r6,r7,r8⟩:=hsp l' o2 hl2
    by_cases e:l=l'
    ·obtain⟨e1,e2⟩:=r8 e
     subst e
     have eb:b2=b:=by rw[hb] at hβ; exact(rC hβ).symm
     subst eb
     rw[e2] at hk
     obtain⟨g1,g2⟩:=how k c hk hcw
     refine⟨ob,b2,hl,hlive,hb,g1, ?_⟩
     simp[World.cell?,hnew,hcs,g2]
    ·have:=r7 e
     subst this
     have hne:b2≠b:=fun e2=>by subst e2; exact e (h.inj l l' ob o2 b2 hl r1 hlive hlive2 hb hβ)
     grind [cell_of_block] }
theorem PZ {xs:List (List Cl)} {sz i off n:Nat} {row cs:List Cl} (hl:∀ x∈xs,x.length=sz) (hi:xs[i]?=some row) (hle:off+n≤row.length) :
  (xs.set i (row.take off++(cs++row.drop (off+n)))).flatten=xs.flatten.take (i*sz+off)++(cs++xs.flatten.drop (i*sz+(off+n))):=by
 have hil:i<xs.length:=(az.1 hi).1
 have hx:xs=xs.take i++row::xs.drop (i+1):=by
  have:row=xs[i]:=by rw[aA hil] at hi; exact(rC hi).symm
  rw[this,← aG hil,List.take_append_drop]
 have hA:(xs.take i).flatten.length=i*sz:=by
  rw[Dp (sz:=sz) (fun x hx=>hl x (yR hx)),bC,X4 (by omega)]
 have hF:xs.flatten=(xs.take i).flatten++(row++(xs.drop (i+1)).flatten):=by
  conv=>lhs; rw[hx]
  simp
 rw[List.set_eq_take_append_cons_drop,bz hil]
 grind [aaP,bT,bM,List.take_length_add_append,List.drop_length_add_append]
theorem Vs {R:Cl→Value→Prop} {F cs:List Cl} {C vs:List Value} {p n:Nat} (hC:∀ (k:Nat) (c:Cl),F[k]?=some c→∃ u,C[k]?=some u∧R c u) (hp:p+n≤F.length) (hcl:cs.length=n) (hvl:vs.length=n)
  (hcs:∀ (k:Nat) (c:Cl),cs[k]?=some c→∃ u,vs[k]?=some u∧R c u) (hFC:F.length≤C.length) :
  ∀ (k:Nat) (c:Cl),(F.take p++(cs++F.drop (p+n)))[k]?=some c→∃ u,(C.take p++(vs++C.drop (p+n)))[k]?=some u∧R c u:=by
 grind
theorem AAz {F cs:List Cl} {C vs:List Value} {p n:Nat} (hp:p+n≤F.length) (hcl:cs.length=n) (hvl:vs.length=n) (hFC:F.length≤C.length) (hno:∀ (k:Nat) (c:Cl),cs[k]?=some c→E8 c=false) :
  ∀ (k:Nat) (c:Cl),(F.take p++(cs++F.drop (p+n)))[k]?=some c→E8 c=true→F[k]?=some c∧(C.take p++(vs++C.drop (p+n)))[k]?=C[k]?:=by
 intro k c hk hc
 have l1:(F.take p).length=p:=by simp; omega
 grind
theorem Kq {R:Cl→Value→Prop} {F:List Cl} {C:List Value} (hC:∀ (k:Nat) (c:Cl),F[k]?=some c→∃ u,C[k]?=some u∧R c u):F.length≤C.length:=by
 rcases bI C.length F.length with h | h
 ·obtain⟨u,hu,_⟩:=hC C.length _ (aA h)
  simp at hu
 ·exact h
theorem AA0 (h:Core w0 St0 St β s a w) (o:Oper) (T:TypeId) (p x:Operand) (ho:o.op = .store T p x) (hc:Ar p=true) (hc2:Ar x=true) {y:AV} {st':List Ob} (hy:X8 P s T (EC s p) (EC s x)=some (y,st')):Does P a w w0 St0 s o y st':=by
 have hp:=Bl h p hc
 have hx:=Bl h x hc2
 unfold X8 at hy
 split at hy
 ·rename_i n l i off cs hs hev hcs
  split at hy
  ·rename_i ob hob
   split at hy
   ·rename_i hwl
    obtain⟨hwr,hcl⟩:=hwl
    split at hy
    ·rename_i row hrow
     split at hy
     ·rename_i hle
      simp only[ah,bJ] at hy
      obtain⟨rfl,rfl⟩:=hy
      rw[hev] at hp
      obtain⟨b,C,hb,hu,g1,g2,g3⟩:=wG h hp hob
      obtain⟨q1,q2⟩:=Qa hx hcs
      have hrl:row.length=ob.sz:=g2 row (aY hrow)
      have hil:i<ob.xs.length:=(az.1 hrow).1
      have hFl:ob.xs.flatten.length=ob.xs.length*ob.sz:=Dp g2
      have g3':∀ (k:Nat) (c:Cl),ob.xs.flatten[k]?=some c→∃ u,C.toList[k]?=some u∧RdB w St s.st β c u:=fun k c hk=>by grind
      have hFC:=Kq g3'
      have hpos:i*ob.sz+(off+n)≤ob.xs.flatten.length:=by
       rw[hFl]
       have:(i+1)*ob.sz≤ob.xs.length*ob.sz:=aaE _ hil
       rw[iW] at this; omega
      have hvl:(a.eval x).cells.toList.length=n:=by rw[q1,hcl]
      have h1:∀ v∈(a.eval x).cells.toList,v.oneCell'=true:=fun v hv=>by
       obtain⟨k,hk1,hk2⟩:=aaI hv
       have hkc:k<cs.length:=by rw[← q1]; exact hk1
       obtain⟨u,hu1,hu2⟩:=q2 k _ (aA hkc)
       rw[aA hk1] at hu1
       simp only[ah] at hu1
       rw[← hk2,hu1]; exact hu2.one
      have hrun:=run_storeCells_at P b (i*ob.sz+off) ob.ty (a.eval x).cells.toList 0 C w g1 (by
       grind) h1
      simp only[abB,hvl] at hrun
      have hasz:(a.eval x).cells.size=n:=by simpa using hvl
      refine⟨.skip,Go.undef,_,St,β, ?_,.inr ⟨rfl,rfl⟩,h.write hob hwr hb (ob.xs.set i (row.take off++(cs++row.drop (off+n)))) (by simp) ?_ g1 (cs':=(C.toList.take (i*ob.sz+off)++(a.eval x).cells.toList++C.toList.drop (i*ob.sz+off+n)).toArray) ?_ ?_ ?_, ?_⟩
      ·simp[execOp,ho,hu,Instr.storeAt,Instr.sureAddr,storeVar,Ha hs,hasz,hrun]
      ·grind
      ·grind
      ·intro k c hk
       rw[PZ g2 hrow hle] at hk
       have:=Vs g3' (p:=i*ob.sz+off) (n:=n) (by omega) hcl hvl (fun k c hk=>by obtain⟨u,hu1,hu2⟩:=q2 k c hk; exact⟨u,hu1,hu2.toB⟩) hFC k c (by grind)
       grind
      ·intro k c hk how
       rw[PZ g2 hrow hle] at hk
       have:=AAz (C:=C.toList) (vs:=(a.eval x).cells.toList) (p:=i*ob.sz+off) (n:=n) (by omega) hcl hvl hFC (fun k c hk=>by obtain⟨u,_,hu2⟩:=q2 k c hk; exact hu2.notOw) k c (by grind) how
       grind
      ·simp only[AVR]
     ·cases hy
    ·cases hy
   ·cases hy
  ·cases hy
 ·cases hy
end Go.Vm
