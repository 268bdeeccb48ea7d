/- Typed data of the laws, its cells, its sizes: by program (gen_data.py). -/
import Derived.Test.YtepjgnlinjlehaaGreatVmW
namespace Go.Proofs.YtepjgnlinjlehaaGreat
set_option linter.unusedSimpArgs false
set_option linter.unusedVariables false
open Go.Vm

def intC (n : Int) : List Cl := [.v (.int .i64 n)]
@[go_sem] theorem intC_eq (n : Int) : intC n = [.v (.int .i64 n)] := rfl
def byteC (n : Int) : List Cl := [.v (.int .u8 n)]
@[go_sem] theorem byteC_eq (n : Int) : byteC n = [.v (.int .u8 n)] := rfl
def sq (x : Int) (k : Int → Int) : Int := if x < 0 then -1 else k x
theorem sq_neg {x : Int} {k : Int → Int} (h : x < 0) : sq x k = -1 := if_pos h
theorem sq_pos {x : Int} {k : Int → Int} (h : ¬ x < 0) : sq x k = k x := if_neg h
def szI (n : Nat) (l : Int) : Int := if l - n < 0 then -1 else l - n
theorem szI_neg {n : Nat} {l : Int} (h : l - n < 0) : szI n l = -1 := if_pos h
theorem szI_pos {n : Nat} {l : Int} (h : ¬ l - n < 0) : szI n l = l - n := if_neg h
def szL {α : Type} (f : α → Int → Int) : List α → Int → Int
  | [], l => l
  | x :: xs, l => sq (f x l) (szL f xs)
def szS {α : Type} (f : α → Int → Int) (xs : List α) (l : Int) : Int := sq (szI xs.length l) (szL f xs)
def fitS {α : Type} (F : α → Prop) (xs : List α) : Prop := xs.length ≤ 1048576 ∧ ∀ x ∈ xs, F x
theorem szI_fit {n : Nat} {l : Int} (h : 0 ≤ szI n l) (hl : l ≤ 1048576) : n ≤ 1048576 ∧ szI n l ≤ l := by
  unfold szI at *
  split at h <;> simp_all <;> omega
theorem sq_fit {x : Int} {k : Int → Int} (h : 0 ≤ sq x k) : 0 ≤ x ∧ 0 ≤ k x ∧ sq x k = k x := by
  unfold sq at *
  split at h
  · omega
  · rename_i hx
    exact ⟨by omega, h, if_neg hx⟩
theorem szL_fit {α : Type} {f : α → Int → Int} {F : α → Prop} : ∀ (xs : List α) (_ : ∀ x ∈ xs, ∀ l, 0 ≤ f x l → l ≤ 1048576 → F x ∧ f x l ≤ l) (l : Int), 0 ≤ szL f xs l → l ≤ 1048576 → (∀ x ∈ xs, F x) ∧ szL f xs l ≤ l
  | [], _, l, _, _ => ⟨by simp, by simp [szL]⟩
  | x :: xs, hf, l, h, hl => by
    simp only [szL] at h ⊢
    obtain ⟨h1, h2, h3⟩ := sq_fit h
    obtain ⟨g1, g2⟩ := hf x (by simp) l h1 hl
    obtain ⟨g3, g4⟩ := szL_fit xs (fun y hy => hf y (by simp [hy])) _ h2 (by omega)
    exact ⟨by simp only [List.mem_cons, forall_eq_or_imp]; exact ⟨g1, g3⟩, by rw [h3]; omega⟩
theorem szS_fit {α : Type} {f : α → Int → Int} {F : α → Prop} (xs : List α) (hf : ∀ x ∈ xs, ∀ l, 0 ≤ f x l → l ≤ 1048576 → F x ∧ f x l ≤ l) {l : Int} (h : 0 ≤ szS f xs l) (hl : l ≤ 1048576) : fitS F xs ∧ szS f xs l ≤ l := by
  unfold szS at h ⊢
  obtain ⟨h1, h2, h3⟩ := sq_fit h
  obtain ⟨g1, g2⟩ := szI_fit h1 hl
  obtain ⟨g3, g4⟩ := szL_fit xs hf _ h2 (by omega)
  exact ⟨⟨g1, g3⟩, by rw [h3]; omega⟩

structure DVal where
  ty : Int
  n : Int
  s : ByteArray
def DVal.c (d : DVal) : List Cl := [.v (.int .i64 d.ty)] ++ ([.v (.int .i64 d.n)] ++ ([.v (.string d.s)]))
@[go_sem] theorem DVal.c_eq (d : DVal) : d.c = [.v (.int .i64 d.ty)] ++ ([.v (.int .i64 d.n)] ++ ([.v (.string d.s)])) := rfl
def szVal (d : DVal) (l : Int) : Int := sq (szI d.s.size l) fun l => l
theorem szVal_eq (d : DVal) (l : Int) : szVal d l = sq (szI d.s.size l) fun l => l := rfl

structure DRow where
  id : Int
  l : List DVal
def DRow.c (d : DRow) : List Cl := [.v (.int .i64 d.id)] ++ ([.sl (d.l.map DVal.c)])
@[go_sem] theorem DRow.c_eq (d : DRow) : d.c = [.v (.int .i64 d.id)] ++ ([.sl (d.l.map DVal.c)]) := rfl
def szRow (d : DRow) (l : Int) : Int := sq (szS szVal d.l l) fun l => l
theorem szRow_eq (d : DRow) (l : Int) : szRow d l = sq (szS szVal d.l l) fun l => l := rfl

structure DTable where
  cols : List Int
  l : List DRow
def DTable.c (d : DTable) : List Cl := [.sl (d.cols.map intC)] ++ ([.sl (d.l.map DRow.c)])
@[go_sem] theorem DTable.c_eq (d : DTable) : d.c = [.sl (d.cols.map intC)] ++ ([.sl (d.l.map DRow.c)]) := rfl
def szTable (d : DTable) (l : Int) : Int := sq (szI d.cols.length l) fun l => sq (szS szRow d.l l) fun l => l
theorem szTable_eq (d : DTable) (l : Int) : szTable d l = sq (szI d.cols.length l) fun l => sq (szS szRow d.l l) fun l => l := rfl

inductive DPred where
  | mk (kind : Int) (col : Int) (op : Int) (v : DVal) (l : List DPred)
def DPred.kind : DPred → Int | .mk kind _ _ _ _ => kind
def DPred.col : DPred → Int | .mk _ col _ _ _ => col
def DPred.op : DPred → Int | .mk _ _ op _ _ => op
def DPred.v : DPred → DVal | .mk _ _ _ v _ => v
def DPred.l : DPred → List DPred | .mk _ _ _ _ l => l
mutual
def DPred.c : DPred → List Cl
  | .mk kind col op v l => [.v (.int .i64 kind)] ++ ([.v (.int .i64 col)] ++ ([.v (.int .i64 op)] ++ (v.c ++ ([.sl (DPred.cs l)]))))
def DPred.cs : List DPred → List (List Cl)
  | [] => []
  | x :: xs => x.c :: DPred.cs xs
end
theorem DPred.cs_eq : ∀ l : List DPred, DPred.cs l = l.map DPred.c
  | [] => by simp only [DPred.cs, List.map_nil]
  | x :: xs => by simp only [DPred.cs, List.map_cons, DPred.cs_eq xs]
@[go_sem] theorem DPred.c_eq (d : DPred) : d.c = [.v (.int .i64 d.kind)] ++ ([.v (.int .i64 d.col)] ++ ([.v (.int .i64 d.op)] ++ (d.v.c ++ ([.sl (d.l.map DPred.c)])))) := by
  cases d
  simp only [DPred.c, DPred.cs_eq, DPred.kind, DPred.col, DPred.op, DPred.v, DPred.l]
mutual
def szPred : DPred → Int → Int
  | .mk kind col op v l, m0 => sq ((szVal v) m0) fun m0 => sq ((fun m => sq (szI l.length m) (szPredL l)) m0) fun m0 => m0
def szPredL : List DPred → Int → Int
  | [], l => l
  | x :: xs, l => sq (szPred x l) (szPredL xs)
end
theorem szPredL_eq : ∀ (l : List DPred) (m : Int), szPredL l m = szL szPred l m
  | [], m => by simp only [szPredL, szL]
  | x :: xs, m => by
    simp only [szPredL, szL]
    congr 1
    funext m
    exact szPredL_eq xs m
theorem szPred_eq (d : DPred) (l : Int) : szPred d l = sq (szVal d.v l) fun l => sq (szS szPred d.l l) fun l => l := by
  have h : szPredL = szL szPred := by funext l m; exact szPredL_eq l m
  cases d
  simp only [szPred, szS, h, DPred.kind, DPred.col, DPred.op, DPred.v, DPred.l]

structure DQuery where
  kind : Int
  p : DPred
  col : Int
  out : List Int
def DQuery.c (d : DQuery) : List Cl := [.v (.int .i64 d.kind)] ++ (d.p.c ++ ([.v (.int .i64 d.col)] ++ ([.sl (d.out.map intC)])))
@[go_sem] theorem DQuery.c_eq (d : DQuery) : d.c = [.v (.int .i64 d.kind)] ++ (d.p.c ++ ([.v (.int .i64 d.col)] ++ ([.sl (d.out.map intC)]))) := rfl
def szQuery (d : DQuery) (l : Int) : Int := sq (szPred d.p l) fun l => sq (szI d.out.length l) fun l => l
theorem szQuery_eq (d : DQuery) (l : Int) : szQuery d l = sq (szPred d.p l) fun l => sq (szI d.out.length l) fun l => l := rfl

structure DResult where
  rows : List DRow
  n : Int
  has : Bool
  v : DVal
def DResult.c (d : DResult) : List Cl := [.sl (d.rows.map DRow.c)] ++ ([.v (.int .i64 d.n)] ++ ([.v (.bool d.has)] ++ (d.v.c)))
@[go_sem] theorem DResult.c_eq (d : DResult) : d.c = [.sl (d.rows.map DRow.c)] ++ ([.v (.int .i64 d.n)] ++ ([.v (.bool d.has)] ++ (d.v.c))) := rfl
def szResult (d : DResult) (l : Int) : Int := sq (szS szRow d.rows l) fun l => sq (szVal d.v l) fun l => l
theorem szResult_eq (d : DResult) (l : Int) : szResult d l = sq (szS szRow d.rows l) fun l => sq (szVal d.v l) fun l => l := rfl

structure DDeed where
  op : Int
  task : Int
  r : List DVal
  id : Int
  q : DQuery
  res : DResult
  code : Int
  stamp : Int
  inv : Int
  lin : Int
  ret : Int
def DDeed.c (d : DDeed) : List Cl := [.v (.int .i64 d.op)] ++ ([.v (.int .i64 d.task)] ++ ([.sl (d.r.map DVal.c)] ++ ([.v (.int .i64 d.id)] ++ (d.q.c ++ (d.res.c ++ ([.v (.int .i64 d.code)] ++ ([.v (.int .i64 d.stamp)] ++ ([.v (.int .i64 d.inv)] ++ ([.v (.int .i64 d.lin)] ++ ([.v (.int .i64 d.ret)]))))))))))
@[go_sem] theorem DDeed.c_eq (d : DDeed) : d.c = [.v (.int .i64 d.op)] ++ ([.v (.int .i64 d.task)] ++ ([.sl (d.r.map DVal.c)] ++ ([.v (.int .i64 d.id)] ++ (d.q.c ++ (d.res.c ++ ([.v (.int .i64 d.code)] ++ ([.v (.int .i64 d.stamp)] ++ ([.v (.int .i64 d.inv)] ++ ([.v (.int .i64 d.lin)] ++ ([.v (.int .i64 d.ret)])))))))))) := rfl
def szDeed (d : DDeed) (l : Int) : Int := sq (szS szVal d.r l) fun l => sq (szQuery d.q l) fun l => sq (szResult d.res l) fun l => l
theorem szDeed_eq (d : DDeed) (l : Int) : szDeed d l = sq (szS szVal d.r l) fun l => sq (szQuery d.q l) fun l => sq (szResult d.res l) fun l => l := rfl

def fitVal (d : DVal) : Prop := d.s.size ≤ 1048576
theorem fitVal_eq (d : DVal) : fitVal d = (d.s.size ≤ 1048576) := rfl
theorem szVal_fit (d : DVal) (l : Int) (h0 : 0 ≤ szVal d l) (hl : l ≤ 1048576) : fitVal d ∧ szVal d l ≤ l := by
  rw [szVal_eq] at h0 ⊢
  rw [fitVal_eq]
  obtain ⟨a0, h1, e0⟩ := sq_fit h0
  obtain ⟨g0, b0⟩ := szI_fit a0 (by omega)
  exact ⟨g0, by rw [e0]; omega⟩
def fitRow (d : DRow) : Prop := fitS fitVal d.l
theorem fitRow_eq (d : DRow) : fitRow d = (fitS fitVal d.l) := rfl
theorem szRow_fit (d : DRow) (l : Int) (h0 : 0 ≤ szRow d l) (hl : l ≤ 1048576) : fitRow d ∧ szRow d l ≤ l := by
  rw [szRow_eq] at h0 ⊢
  rw [fitRow_eq]
  obtain ⟨a0, h1, e0⟩ := sq_fit h0
  obtain ⟨g0, b0⟩ := szS_fit d.l (fun x _ => szVal_fit x) a0 (by omega)
  exact ⟨g0, by rw [e0]; omega⟩
def fitTable (d : DTable) : Prop := d.cols.length ≤ 1048576 ∧ fitS fitRow d.l
theorem fitTable_eq (d : DTable) : fitTable d = (d.cols.length ≤ 1048576 ∧ fitS fitRow d.l) := rfl
theorem szTable_fit (d : DTable) (l : Int) (h0 : 0 ≤ szTable d l) (hl : l ≤ 1048576) : fitTable d ∧ szTable d l ≤ l := by
  rw [szTable_eq] at h0 ⊢
  rw [fitTable_eq]
  obtain ⟨a0, h1, e0⟩ := sq_fit h0
  obtain ⟨g0, b0⟩ := szI_fit a0 (by omega)
  obtain ⟨a1, h2, e1⟩ := sq_fit h1
  obtain ⟨g1, b1⟩ := szS_fit d.l (fun x _ => szRow_fit x) a1 (by omega)
  exact ⟨⟨g0, g1⟩, by rw [e0, e1]; omega⟩
mutual
def fitPred : DPred → Prop
  | .mk kind col op v l => fitVal v ∧ (l.length ≤ 1048576 ∧ fitPredL l)
def fitPredL : List DPred → Prop
  | [] => True
  | x :: xs => fitPred x ∧ fitPredL xs
end
theorem fitPredL_eq : ∀ l : List DPred, fitPredL l = ∀ x ∈ l, fitPred x
  | [] => by simp [fitPredL]
  | x :: xs => by simp [fitPredL, fitPredL_eq xs]
theorem fitPred_eq (d : DPred) : fitPred d = (fitVal d.v ∧ fitS fitPred d.l) := by
  cases d
  simp only [fitPred, fitS, fitPredL_eq, DPred.kind, DPred.col, DPred.op, DPred.v, DPred.l]
theorem szPred_fitof (d : DPred) (hx : ∀ x ∈ d.l, ∀ l, 0 ≤ szPred x l → l ≤ 1048576 → fitPred x ∧ szPred x l ≤ l) (l : Int) (h0 : 0 ≤ szPred d l) (hl : l ≤ 1048576) : fitPred d ∧ szPred d l ≤ l := by
  rw [szPred_eq] at h0 ⊢
  rw [fitPred_eq]
  obtain ⟨a0, h1, e0⟩ := sq_fit h0
  obtain ⟨g0, b0⟩ := szVal_fit d.v _ a0 (by omega)
  obtain ⟨a1, h2, e1⟩ := sq_fit h1
  obtain ⟨g1, b1⟩ := szS_fit d.l hx a1 (by omega)
  exact ⟨⟨g0, g1⟩, by rw [e0, e1]; omega⟩
theorem szPred_fitn : ∀ (n : Nat) (d : DPred), SizeOf.sizeOf d ≤ n → ∀ l, 0 ≤ szPred d l → l ≤ 1048576 → fitPred d ∧ szPred d l ≤ l
  | 0, d, h => by cases d; simp at h
  | n + 1, d, h => szPred_fitof d fun x hx => szPred_fitn n x (by
    have h1 : SizeOf.sizeOf x < SizeOf.sizeOf d.l := List.sizeOf_lt_of_mem hx
    have h2 : SizeOf.sizeOf d.l < SizeOf.sizeOf d := by cases d; simp [DPred.l]; omega
    omega)
theorem szPred_fit (d : DPred) (l : Int) (h : 0 ≤ szPred d l) (hl : l ≤ 1048576) : fitPred d ∧ szPred d l ≤ l := szPred_fitn _ d (Nat.le_refl _) l h hl
def fitQuery (d : DQuery) : Prop := fitPred d.p ∧ d.out.length ≤ 1048576
theorem fitQuery_eq (d : DQuery) : fitQuery d = (fitPred d.p ∧ d.out.length ≤ 1048576) := rfl
theorem szQuery_fit (d : DQuery) (l : Int) (h0 : 0 ≤ szQuery d l) (hl : l ≤ 1048576) : fitQuery d ∧ szQuery d l ≤ l := by
  rw [szQuery_eq] at h0 ⊢
  rw [fitQuery_eq]
  obtain ⟨a0, h1, e0⟩ := sq_fit h0
  obtain ⟨g0, b0⟩ := szPred_fit d.p _ a0 (by omega)
  obtain ⟨a1, h2, e1⟩ := sq_fit h1
  obtain ⟨g1, b1⟩ := szI_fit a1 (by omega)
  exact ⟨⟨g0, g1⟩, by rw [e0, e1]; omega⟩
def fitResult (d : DResult) : Prop := fitS fitRow d.rows ∧ fitVal d.v
theorem fitResult_eq (d : DResult) : fitResult d = (fitS fitRow d.rows ∧ fitVal d.v) := rfl
theorem szResult_fit (d : DResult) (l : Int) (h0 : 0 ≤ szResult d l) (hl : l ≤ 1048576) : fitResult d ∧ szResult d l ≤ l := by
  rw [szResult_eq] at h0 ⊢
  rw [fitResult_eq]
  obtain ⟨a0, h1, e0⟩ := sq_fit h0
  obtain ⟨g0, b0⟩ := szS_fit d.rows (fun x _ => szRow_fit x) a0 (by omega)
  obtain ⟨a1, h2, e1⟩ := sq_fit h1
  obtain ⟨g1, b1⟩ := szVal_fit d.v _ a1 (by omega)
  exact ⟨⟨g0, g1⟩, by rw [e0, e1]; omega⟩
def fitDeed (d : DDeed) : Prop := fitS fitVal d.r ∧ fitQuery d.q ∧ fitResult d.res
theorem fitDeed_eq (d : DDeed) : fitDeed d = (fitS fitVal d.r ∧ fitQuery d.q ∧ fitResult d.res) := rfl
theorem szDeed_fit (d : DDeed) (l : Int) (h0 : 0 ≤ szDeed d l) (hl : l ≤ 1048576) : fitDeed d ∧ szDeed d l ≤ l := by
  rw [szDeed_eq] at h0 ⊢
  rw [fitDeed_eq]
  obtain ⟨a0, h1, e0⟩ := sq_fit h0
  obtain ⟨g0, b0⟩ := szS_fit d.r (fun x _ => szVal_fit x) a0 (by omega)
  obtain ⟨a1, h2, e1⟩ := sq_fit h1
  obtain ⟨g1, b1⟩ := szQuery_fit d.q _ a1 (by omega)
  obtain ⟨a2, h3, e2⟩ := sq_fit h2
  obtain ⟨g2, b2⟩ := szResult_fit d.res _ a2 (by omega)
  exact ⟨⟨g0, g1, g2⟩, by rw [e0, e1, e2]; omega⟩
theorem DVal.pure (d : DVal) : pureL d.c = true := by
  simp [DVal.c_eq, pureL, pureC]
theorem DRow.pure (d : DRow) : pureL d.c = true := by
  simp [DRow.c_eq, pureL, pureC]
theorem DTable.pure (d : DTable) : pureL d.c = true := by
  simp [DTable.c_eq, pureL, pureC]
theorem DPred.pure (d : DPred) : pureL d.c = true := by
  have h0 := DVal.pure d.v
  rw [pureL] at h0
  simp [DPred.c_eq, pureL, pureC, h0]
theorem DQuery.pure (d : DQuery) : pureL d.c = true := by
  have h0 := DPred.pure d.p
  rw [pureL] at h0
  simp [DQuery.c_eq, pureL, pureC, h0]
theorem DResult.pure (d : DResult) : pureL d.c = true := by
  have h0 := DVal.pure d.v
  rw [pureL] at h0
  simp [DResult.c_eq, pureL, pureC, h0]
theorem DDeed.pure (d : DDeed) : pureL d.c = true := by
  have h0 := DQuery.pure d.q
  rw [pureL] at h0
  have h1 := DResult.pure d.res
  rw [pureL] at h1
  simp [DDeed.c_eq, pureL, pureC, h0, h1]
theorem intC.pure (n : Int) : pureL (intC n) = true := rfl
theorem byteC.pure (n : Int) : pureL (byteC n) = true := rfl

end Go.Proofs.YtepjgnlinjlehaaGreat
