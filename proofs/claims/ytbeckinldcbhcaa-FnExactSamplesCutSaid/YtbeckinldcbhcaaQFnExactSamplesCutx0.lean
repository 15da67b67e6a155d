-- Written by wip/tools/mk.py (this session's program, which runs the kit's print): functions, and proofs that the machine's calls do what they say.
import Derived.Test.YtbeckinldcbhcaaProg
import Derived.Below
import Derived.Deep.Draws
import Derived.Deep.AppendLies
import Derived.Maps.AppendAt
import Derived.OwnWalk
import Derived.Laws.BytesArg
import Derived.Laws.MakeOwn
import Derived.Laws.OwnMore
import Derived.Deep.OwnRows
import Derived.Tactics
import Derived.Lib.ConvBytes
import Derived.Laws.Slices
import Derived.WalkKit
import Derived.KernelRfl
import Derived.RowKit3
import Derived.Deep.LoopGhost
import Derived.Deep.QuietTactic
import Derived.BigQuiet
import Derived.WideLaws
import Derived.Deep.DeepCutAuto
import Derived.Deep.CutBlock
import Derived.Deep.RegionHeld3
import Derived.Laws.Rows
import Derived.Lib.AppendStr
import Derived.ArgAppend
import Derived.Laws.IdiomCopy
import Derived.OrdersHeld
import Derived.Laws.BitsLemmas
import Derived.RowKit
import Derived.Lib.SliceRun
import Derived.Test.YtbeckinldcbhcaaWWords
import Derived.Test.YtbeckinldcbhcaaWLast
import Derived.Test.YtbeckinldcbhcaaWTab
import Derived.Test.YtbeckinldcbhcaaWQPut
import Derived.Test.YtbeckinldcbhcaaWApart
import Derived.Test.YtbeckinldcbhcaaWArr
import Derived.Test.YtbeckinldcbhcaaWZeros
import Derived.Test.YtbeckinldcbhcaaWFoot
import Derived.Test.YtbeckinldcbhcaaWKept
import Derived.Test.YtbeckinldcbhcaaWShare
import Derived.Test.YtbeckinldcbhcaaWN
import Derived.Test.YtbeckinldcbhcaaWGuard
import Derived.Test.YtbeckinldcbhcaaWNEv
import Derived.Test.YtbeckinldcbhcaaWMore
import Derived.Test.YtbeckinldcbhcaaWOwn
namespace Go.Proofs.Ytbeckinldcbhcaa.QFnExactSamplesCut
open Go.RowKit Go.Proofs.YtbeckinldcbhcaaW.PrintWords Go.Proofs.YtbeckinldcbhcaaW.PrintLast Go.Proofs.YtbeckinldcbhcaaW.PrintMore
attribute [local go_sem] IntKind.wrap_u8 max2_int min2_int max_two min_two max_three min_three max_four min_four   -- for this text's walks alone
set_option linter.unusedVariables false
set_option linter.unusedSimpArgs false



def errW : Option Int → Value
  | none => .nilIface
  | some c => .iface 0 (.int .i64 c)
theorem errW_none : errW none = .nilIface := rfl
theorem errW_some (c : Int) : errW (some c) = .iface 0 (.int .i64 c) := rfl

theorem info56 : (Try.prog.info? 56).map (fun i => (i.zero, i.size, i.bytes)) = some (some (.agg #[(.int .i64 0), (.int .i64 0)]), 2, 16) := by kernel_rfl
-- the values' own types
/-! #### struct type 82 -/
structure S82 where
  f0 : Int
  f1 : Int
def z82 : S82 := ⟨(0 : Int), (0 : Int)⟩
def k82 : Kd S82 := Kd.iso (Kd.pair (Kd.int .i64) (Kd.int .i64)) (fun x : S82 => (x.f0, x.f1))
theorem k82_open {w : World} {x : S82} {cs : List Value} (h : k82.K w x cs) : cs = [.int .i64 x.f0, .int .i64 x.f1] := by
  obtain ⟨_, _, rfl, rfl, rfl⟩ := h
  exact rfl
theorem k82_openM {w : World} {base : Nat} {ok : Nat → Prop} {x : S82} {cs : List Value} (h : k82.M w base ok x cs) : cs = [.int .i64 x.f0, .int .i64 x.f1] := by
  obtain ⟨_, _, rfl, rfl, rfl⟩ := h
  exact rfl
theorem k82_mk (w : World) (x : S82)  : k82.K w x [.int .i64 x.f0, .int .i64 x.f1] := ⟨[.int .i64 x.f0], [.int .i64 x.f1], rfl, rfl, rfl⟩
theorem k82_mkM (w : World) (base : Nat) (ok : Nat → Prop) (x : S82)  : k82.M w base ok x [.int .i64 x.f0, .int .i64 x.f1] := ⟨[.int .i64 x.f0], [.int .i64 x.f1], rfl, rfl, rfl⟩
def rd_T82 (xs : List S82) (i : Int) : S82 := xs.getD i.toNat z82
theorem at_T82 {w : World} {A : Option Addr} {n : Nat} {xs : List S82} (h : Kd.C k82 w A n xs) (i : Int) (h0 : 0 ≤ i) (h1 : i < n) : ∃ ad , A = some ad ∧ w.cell? (ad.add (i.toNat * 2)) = some (.int .i64 (rd_T82 xs i).f0) ∧ w.cell? ⟨(ad.add (i.toNat * 2)).block, (ad.add (i.toNat * 2)).off + 1, none⟩ = some (.int .i64 (rd_T82 xs i).f1) := by
  obtain ⟨ad, c, e, _, hK, hc0⟩ := Kd.C_get h z82 i h0 h1
  have hc : ∀ j u, c[j]? = some u → w.cell? (ad.add (i.toNat * 2 + j)) = some u := hc0
  obtain rfl := k82_open hK
  exact ⟨ad, e, hc 0 _ rfl, by rw [← add_field _ _ 1 (by omega)]; exact hc 1 _ rfl⟩

/-! #### struct type 56 -/
structure S56 where
  f0 : Int
  f1 : Int
def z56 : S56 := ⟨(0 : Int), (0 : Int)⟩
def k56 : Kd S56 := Kd.iso (Kd.pair (Kd.int .i64) (Kd.int .i64)) (fun x : S56 => (x.f0, x.f1))
theorem k56_open {w : World} {x : S56} {cs : List Value} (h : k56.K w x cs) : cs = [.int .i64 x.f0, .int .i64 x.f1] := by
  obtain ⟨_, _, rfl, rfl, rfl⟩ := h
  exact rfl
theorem k56_openM {w : World} {base : Nat} {ok : Nat → Prop} {x : S56} {cs : List Value} (h : k56.M w base ok x cs) : cs = [.int .i64 x.f0, .int .i64 x.f1] := by
  obtain ⟨_, _, rfl, rfl, rfl⟩ := h
  exact rfl
theorem k56_mk (w : World) (x : S56)  : k56.K w x [.int .i64 x.f0, .int .i64 x.f1] := ⟨[.int .i64 x.f0], [.int .i64 x.f1], rfl, rfl, rfl⟩
theorem k56_mkM (w : World) (base : Nat) (ok : Nat → Prop) (x : S56)  : k56.M w base ok x [.int .i64 x.f0, .int .i64 x.f1] := ⟨[.int .i64 x.f0], [.int .i64 x.f1], rfl, rfl, rfl⟩
def rd_T56 (xs : List S56) (i : Int) : S56 := xs.getD i.toNat z56
theorem at_T56 {w : World} {A : Option Addr} {n : Nat} {xs : List S56} (h : Kd.C k56 w A n xs) (i : Int) (h0 : 0 ≤ i) (h1 : i < n) : ∃ ad , A = some ad ∧ w.cell? (ad.add (i.toNat * 2)) = some (.int .i64 (rd_T56 xs i).f0) ∧ w.cell? ⟨(ad.add (i.toNat * 2)).block, (ad.add (i.toNat * 2)).off + 1, none⟩ = some (.int .i64 (rd_T56 xs i).f1) := by
  obtain ⟨ad, c, e, _, hK, hc0⟩ := Kd.C_get h z56 i h0 h1
  have hc : ∀ j u, c[j]? = some u → w.cell? (ad.add (i.toNat * 2 + j)) = some u := hc0
  obtain rfl := k56_open hK
  exact ⟨ad, e, hc 0 _ rfl, by rw [← add_field _ _ 1 (by omega)]; exact hc 1 _ rfl⟩

def rd_L3 (xs : List (List S56)) (i : Int) : (List S56) := xs.getD i.toNat ([] : List S56)
theorem at_L3 {w : World} {A : Option Addr} {n : Nat} {xs : List (List S56)} (h : Kd.C (Kd.slice 56 k56) w A n xs) (i : Int) (h0 : 0 ≤ i) (h1 : i < n) : ∃ ad A0 c0, A = some ad ∧ w.cell? (ad.add i.toNat) = some (.slice A0 (rd_L3 xs i).length c0) ∧ (rd_L3 xs i).length ≤ c0 ∧ k56.C w A0 (rd_L3 xs i).length (rd_L3 xs i) := by
  obtain ⟨ad, c, e, _, hK, hc0⟩ := Kd.C_get h ([] : List S56) i h0 h1
  have hc : ∀ j u, c[j]? = some u → w.cell? (ad.add (i.toNat * 1 + j)) = some u := hc0
  obtain ⟨A0, c0, rfl, l0, g0⟩ := hK
  exact ⟨ad, A0, c0, e, by have hq := hc 0 _ rfl; rwa [Nat.mul_one, Nat.add_zero] at hq, l0, g0⟩

def rd_L5 (xs : List (List S82)) (i : Int) : (List S82) := xs.getD i.toNat ([] : List S82)
theorem at_L5 {w : World} {A : Option Addr} {n : Nat} {xs : List (List S82)} (h : Kd.C (Kd.slice 82 k82) w A n xs) (i : Int) (h0 : 0 ≤ i) (h1 : i < n) : ∃ ad A0 c0, A = some ad ∧ w.cell? (ad.add i.toNat) = some (.slice A0 (rd_L5 xs i).length c0) ∧ (rd_L5 xs i).length ≤ c0 ∧ k82.C w A0 (rd_L5 xs i).length (rd_L5 xs i) := by
  obtain ⟨ad, c, e, _, hK, hc0⟩ := Kd.C_get h ([] : List S82) i h0 h1
  have hc : ∀ j u, c[j]? = some u → w.cell? (ad.add (i.toNat * 1 + j)) = some u := hc0
  obtain ⟨A0, c0, rfl, l0, g0⟩ := hK
  exact ⟨ad, A0, c0, e, by have hq := hc 0 _ rfl; rwa [Nat.mul_one, Nat.add_zero] at hq, l0, g0⟩

def chainP {α : Type} (R : α → Bool) (lt : α → α → Bool) : Option α → List α → Bool
  | _, [] => true
  | p, x :: l => R x && (match p with | none => true | some q => lt q x) && chainP R lt (some x) l
def prevG {α : Type} (l : List α) (z : α) (i : Nat) : Option α := if i = 0 then none else some (l.getD (i - 1) z)
theorem chainP_cons {α : Type} (R : α → Bool) (lt : α → α → Bool) (p : Option α) (x : α) (l : List α) : chainP R lt p (x :: l) = (R x && (match p with | none => true | some q => lt q x) && chainP R lt (some x) l) := rfl
theorem getD_at {α : Type} {l : List α} {i : Nat} (h : i < l.length) (d : α) : l.getD i d = l[i] := by simp [List.getD, List.getElem?_eq_getElem h]
theorem prevG_succ {α : Type} (l : List α) (z : α) (i : Nat) (h : i < l.length) : prevG l z (i + 1) = some l[i] := by
  unfold prevG
  rw [if_neg (by omega), Nat.add_sub_cancel, getD_at h]
theorem chainP_step {α : Type} (R : α → Bool) (lt : α → α → Bool) (l : List α) (z : α) (i : Nat) (h : i < l.length) : chainP R lt (prevG l z i) (l.drop i) = (R l[i] && (if 0 < i then lt (l.getD (i - 1) z) l[i] else true) && chainP R lt (prevG l z (i + 1)) (l.drop (i + 1))) := by
  rw [List.drop_eq_getElem_cons h, chainP_cons, prevG_succ l z i h]
  by_cases hi : i = 0
  · subst hi; rfl
  · unfold prevG
    rw [if_neg hi, if_pos (by omega)]
theorem chainP_no1 {α : Type} (R : α → Bool) (lt : α → α → Bool) (l : List α) (z : α) (i : Nat) (h : i < l.length) (hR : R (l.getD i z) = false) : chainP R lt (prevG l z i) (l.drop i) = false := by
  rw [getD_at h] at hR
  rw [chainP_step R lt l z i h, hR, Bool.false_and, Bool.false_and]
theorem chainP_no2 {α : Type} (R : α → Bool) (lt : α → α → Bool) (l : List α) (z : α) (i : Nat) (h : i < l.length) (h0 : 0 < i) (hl : lt (l.getD (i - 1) z) (l.getD i z) = false) : chainP R lt (prevG l z i) (l.drop i) = false := by
  rw [getD_at h z] at hl
  rw [chainP_step R lt l z i h, if_pos h0, hl, Bool.and_false, Bool.false_and]
theorem chainP_on0 {α : Type} (R : α → Bool) (lt : α → α → Bool) (l : List α) (z : α) (h : 0 < l.length) (hR : R (l.getD 0 z) = true) : chainP R lt (prevG l z 0) (l.drop 0) = chainP R lt (prevG l z 1) (l.drop 1) := by
  rw [getD_at h] at hR
  rw [chainP_step R lt l z 0 h, hR, if_neg (Nat.lt_irrefl 0), Bool.true_and, Bool.true_and]
theorem chainP_on {α : Type} (R : α → Bool) (lt : α → α → Bool) (l : List α) (z : α) (i : Nat) (h : i < l.length) (h0 : 0 < i) (hR : R (l.getD i z) = true) (hl : lt (l.getD (i - 1) z) (l.getD i z) = true) : chainP R lt (prevG l z i) (l.drop i) = chainP R lt (prevG l z (i + 1)) (l.drop (i + 1)) := by
  rw [getD_at h z] at hl hR
  rw [chainP_step R lt l z i h, hR, if_pos h0, hl, Bool.true_and, Bool.true_and]
theorem chainP_end {α : Type} (R : α → Bool) (lt : α → α → Bool) (l : List α) (p : Option α) (i : Nat) (h : l.length ≤ i) : chainP R lt p (l.drop i) = true := by
  rw [List.drop_eq_nil_of_le h]
  rfl
theorem quiet_D {P : Program} {f : FuncId} {args : Array Value} {w : World} {n : Nat} {v : Value} (h : Calls P f args (w.drewN n) fun e w' => e = .returned v ∧ Drawn0 (w.drewN n) w') : Calls P f args (w.drewN n) fun e w'' => e = .returned v ∧ ∃ m, w'' = w.drewN m :=
  Calls.quiet_of (h.mono fun _ _ ⟨h1, h2⟩ => ⟨h1, h2.out⟩)

abbrev Smp := S56
def inR (x : Smp) : Bool := decide (0 ≤ x.f0 ∧ x.f0 ≤ 9999 ∧ 0 ≤ x.f1 ∧ x.f1 ≤ 2147483647)
def smpLt (q x : Smp) : Bool := decide (q.f0 < x.f0)
def sokP (p : Option Smp) (l : List Smp) : Bool := chainP inR smpLt p l
def sok (l : List Smp) : Bool := sokP none l

def rowClearPre_ : Unit := ()
section
variable {P : Program} {ops : Array Oper} {rest : List Oper} {o : Oper} {a : Act} {Q : Exit → Act → World → Prop} {α : Type}
theorem zeroCells_len (z : Array Value) (n : Nat) : (Builtin.zeroCells z n).toList.length = n * z.size := by
  rw [Array.length_toList]
  simp [Builtin.zeroCells]
theorem zeroCells_one (z : Array Value) (n : Nat) (h : ∀ u ∈ z.toList, u.oneCell' = true) : ∀ u ∈ (Builtin.zeroCells z n).toList, u.oneCell' = true := by
  intro u hu
  rw [Array.mem_toList_iff] at hu
  unfold Builtin.zeroCells at hu
  obtain ⟨i, hi, rfl⟩ := Array.mem_map.1 hu
  rw [Array.mem_range] at hi
  have hz : 0 < z.size := by
    rcases Nat.eq_zero_or_pos z.size with h0 | h0
    · rw [h0, Nat.mul_zero] at hi; omega
    · exact h0
  have hm : i % z.size < z.size := Nat.mod_lt _ hz
  rw [getElem!_pos z (i % z.size) hm]
  exact h _ (by rw [Array.mem_toList_iff]; exact Array.getElem_mem hm)
/-- A row of one's own, cut to its first k elements: what stands behind them in its block is another's. -/
theorem R_tail {d : Kd α} {W : World} {base e g n cap k : Nat} {ok : Nat → Prop} {xs : List α} (HO : d.R e W base ok (.slice (some ⟨g, 0, none⟩) n cap) xs) (hk : k ≤ n) (vs : List Value) (hl : k * d.sz + vs.length ≤ n * d.sz) :
    d.R e (W.setCells g (k * d.sz) vs) base ok (.slice (some ⟨g, 0, none⟩) k cap) (xs.take k) ∧ W.grownBy (W.setCells g (k * d.sz) vs) (some g) ∧ ∃ cur : Array Value, W.heap[g]? = some (.cells cur e (0, 0)) ∧ n * d.sz ≤ cur.size := by
  have hn : n = xs.length := (Kd.R_reads' HO).1
  have hown0 := HO
  obtain ⟨_, inner0, ho0, _⟩ := hown0
  obtain ⟨hok, inner, ho, hr⟩ := Kd.R_take (m := k) HO (by omega)
  obtain ⟨h1, h2⟩ := ho
  rcases h2 with ⟨hv, _⟩ | ⟨g', cap', cur, hv, hb, hh, hnc, hcm, hcs, ht⟩
  · cases hv
  injection hv with ha _ hc
  injection ha with ha
  injection ha with hg
  subst hg; subst hc
  have hnc2 : n ≤ cap := by
    rcases ho0.2 with ⟨hv, _⟩ | ⟨_, _, _, hv, _, _, hx, _⟩
    · cases hv
    · injection hv with _ _ hc
      subst hc
      omega
  have hfit : n * d.sz ≤ cur.size := by rw [hcs]; exact Nat.mul_le_mul_right _ hnc2
  obtain ⟨cur', h3, h4, h5⟩ := setCells_row vs (k * d.sz) W cur hh (by omega)
  obtain ⟨s1, s2, s3, s4⟩ := setCells_same g vs (k * d.sz) W
  have hfar : ∀ q, q ≠ g → (W.setCells g (k * d.sz) vs).heap[q]? = W.heap[q]? := fun q hq => setCells_far vs _ q hq
  refine ⟨⟨hok, inner, ⟨h1, .inr ⟨g, cap, cur', by rw [show (xs.take k).length = k by rw [List.length_take]; omega], hb, h3, hnc, hcm, by rw [h4, hcs], ?_⟩⟩, ?_⟩, ⟨s1, s2, s3, by rw [s4]; exact Nat.le_refl _, fun q _ hq => hfar q (fun he => hq (by rw [he]))⟩, cur, hh, hfit⟩
  · rw [← ht, h5, List.append_assoc, show (xs.take k).length = k by rw [List.length_take]; omega]
    rw [List.take_append_of_le_length (by rw [List.length_take, Array.length_toList]; omega), List.take_take, Nat.min_self]
  · exact hr.imp_ (fun _ _ hq => d.M_mono (fun _ hk => hk.1) (d.M_move (fun q hq => hfar q (fun he => hq.1.2 (by rw [he]; simp [Value.ownBlock]))) (d.M_bound hq)))
/-- clear(s[k:]), s a row of one's own: s[:k] is as it was. -/
theorem R_clear (d : Kd α) {w0 W : World} (base : Nat) (hN : o.dst = none) (hgd : o.guard = none) (x : Operand) (t e : TypeId) (ho : o.op = .call { callee := .builtin .clear, args := #[x], argTypes := #[t] })
    (ht : P.underlying t = some (.slice e)) (z : Value) (hz0 : ∀ w, (zeroValue e).run P w = .ok z w) (hz : z.cells.size = d.sz) (hz1 : ∀ u ∈ z.cells.toList, u.oneCell' = true) {g n cap k : Nat} (xs : List α) (ok : Nat → Prop)
    (hx : a.eval x = .slice (if cap = k then some ⟨g, 0, none⟩ else (some (⟨g, 0, none⟩ : Addr)).map (·.add (k * d.sz))) (n - k) (cap - k)) (hk : k ≤ n)
    (HO : d.R e W base ok (.slice (some ⟨g, 0, none⟩) n cap) xs) (HB : Below base w0 W)
    (h : ∀ w1, d.R e w1 base ok (.slice (some ⟨g, 0, none⟩) k cap) (xs.take k) → Below base w0 w1 → wpList P ops Q rest a w1) : wpList P ops Q (o :: rest) a W := by
  have hn : n = xs.length := (Kd.R_reads' HO).1
  have hnc : n ≤ cap := (Kd.R_reads' HO).2.1
  have hbg : base ≤ g := Kd.R_base HO g (by simp [Value.ownBlock])
  refine wpList_plain hgd fun K hK => ?_
  have key : ∃ vs : List Value, k * d.sz + vs.length ≤ n * d.sz ∧ (Builtin.clear_ #[t] o.type #[a.eval x]).run P W = .ok (.tuple #[]) (W.setCells g (k * d.sz) vs) := by
    rw [hx]
    rcases Nat.lt_or_ge k n with hlt | hge
    · obtain ⟨_, _, cur, hh, hfit⟩ := R_tail HO hk [] (by simp only [List.length_nil]; exact Nat.mul_le_mul_right _ hk)
      have hle : k * d.sz + (n - k) * d.sz = n * d.sz := by rw [← Nat.add_mul]; congr 1; omega
      refine ⟨(Builtin.zeroCells z.cells (n - k)).toList, by rw [zeroCells_len, hz]; omega, ?_⟩
      rw [if_neg (show ¬ cap = k by omega)]
      have hst := run_storeCells_cells (P := P) g (k * d.sz) (Builtin.zeroCells z.cells (n - k)).toList 0 W
        (fun j hj => by rw [cell_of_row W g _ cur e (0, 0) hh]; rw [zeroCells_len, hz] at hj; simp; omega)
        (fun j _ => blk_frozen hh _) (zeroCells_one _ _ hz1)
      rw [Nat.add_zero] at hst
      have hadd : (some (⟨g, 0, none⟩ : Addr)).map (·.add (k * d.sz)) = some ⟨g, k * d.sz, none⟩ := by simp [Addr.add]; exact fun h => h.symm
      rw [hadd]
      obtain ⟨m, hm⟩ : ∃ m, n - k = m + 1 := ⟨n - k - 1, by omega⟩
      rw [hm] at hst ⊢
      simp [Builtin.clear_, run_underlying ht, hz0, hst]
    · refine ⟨[], by simp only [List.length_nil]; exact Nat.mul_le_mul_right _ hk, ?_⟩
      rw [show n - k = 0 by omega]
      show _ = Result.ok (Value.tuple #[]) W
      split <;> simp [Builtin.clear_, run_underlying ht]
  obtain ⟨vs, hvs, hrun⟩ := key
  obtain ⟨h1, h2, _⟩ := R_tail HO hk vs hvs
  have hB : Below base w0 (W.setCells g (k * d.sz) vs) := HB.trans ⟨h2.os, h2.tape, h2.output, h2.size, fun q hq => setCells_far vs _ q (by omega)⟩
  unfold Oper.wp execOp
  simp only [ho, resolve, invoke, builtin, Sem.run_bind, Sem.run_pure, Result.andThen_ok, List.map_toArray, List.map_cons, List.map_nil, hrun]
  show K (a.put o.dst (.tuple #[])) _
  rw [hN]
  exact hK a _ (h _ h1 hB)
end

def smpA (x : Smp) : Value := .agg #[.int .i64 x.f0, .int .i64 x.f1]
def FstP (P : Smp → Bool) (l : List Smp) (r : Int) : Prop := (r = -1 ∧ (l.filter fun x => !P x) = l) ∨ ∃ j : Nat, j < l.length ∧ r = (j : Int) ∧ P (l.getD j z56) = true ∧ ((l.take j).filter fun x => !P x) = l.take j
theorem filter_take_no (P : Smp → Bool) (l : List Smp) (z : Smp) (k : Nat) (h : k < l.length) (hP : P (l.getD k z) = false) : ((l.take (k + 1)).filter fun x => !P x) = ((l.take k).filter fun x => !P x) ++ [l.getD k z] := by
  rw [getD_at h] at hP ⊢
  rw [List.take_succ_eq_append_getElem h, List.filter_append]
  congr 1
  simp [hP]
theorem filter_take_yes (P : Smp → Bool) (l : List Smp) (z : Smp) (k : Nat) (h : k < l.length) (hP : P (l.getD k z) = true) : ((l.take (k + 1)).filter fun x => !P x) = ((l.take k).filter fun x => !P x) := by
  rw [getD_at h] at hP
  rw [List.take_succ_eq_append_getElem h, List.filter_append]
  simp [hP]
theorem take_snoc (l : List Smp) (z : Smp) (k : Nat) (h : k < l.length) : l.take (k + 1) = l.take k ++ [l.getD k z] := by
  rw [getD_at h, List.take_succ_eq_append_getElem h]
theorem store_smp {ops : Array Oper} {rest : List Oper} {o : Oper} {a : Act} {Q : Exit → Act → World → Prop} {w0 W : World} (base : Nat) (hN : o.dst = none) (hgd : o.guard = none) (p x : Operand) (ho : o.op = .store 56 p x) {g n cap : Nat} (i : Nat) (ys : List Smp) (q : Smp)
    (haddr : a.eval p = .pointer (some ⟨g, i * 2, none⟩)) (hx : a.eval x = .agg #[.int .i64 q.f0, .int .i64 q.f1]) (HO : Kd.R k56 56 W base (fun _ => True) (.slice (some ⟨g, 0, none⟩) n cap) ys) (hi : i < n) (HB : Below base w0 W)
    (h : ∀ w1, Kd.R k56 56 w1 base (fun _ => True) (.slice (some ⟨g, 0, none⟩) n cap) (ys.set i q) → Below base w0 w1 → W.heap.size ≤ w1.heap.size → wpList Try.prog ops Q rest a w1) : wpList Try.prog ops Q (o :: rest) a W := by
  obtain ⟨c, hcl, _, hcc, _⟩ := Kd.R_elem HO z56 (i : Int) (by omega) (by omega)
  have hcl2 : c.length = 2 := hcl
  have hdr : c.drop (0 + 2) = [] := List.drop_eq_nil_of_le (by omega)
  refine Kd.R_store k56 base hN hgd 56 p x ho 56 (i : Int) 0 ys q (.agg #[.int .i64 q.f0, .int .i64 q.f1]) [.int .i64 q.f0, .int .i64 q.f1] c (fun _ => True) (fun _ => False) haddr ?ho hx ?hu ?ht ?h1 HO (by omega) (by omega) hcl hcc (Nat.le_refl _) ?hM (fun _ h => h.elim) HB ?_
  case ho => rw [Int.toNat_natCast]; rfl
  case hu => simp [Value.cells, Value.oneCell']
  case ht => kernel_rfl
  case h1 => intro q hq; simp only [List.mem_cons, List.mem_nil_iff, or_false] at hq; rcases hq with rfl | rfl <;> rfl
  case hM => rw [show ([Value.int .i64 q.f0, .int .i64 q.f1] : List Value).length = 2 from rfl, hdr]; exact ⟨[.int .i64 q.f0], [.int .i64 q.f1], by simp, rfl, rfl⟩
  intro w1 h1 h2 h3
  rw [Int.toNat_natCast] at h1
  exact h w1 h1 h2 h3.size
theorem clear_smp {ops : Array Oper} {rest : List Oper} {o : Oper} {a : Act} {Q : Exit → Act → World → Prop} {w0 W : World} (base : Nat) (hN : o.dst = none) (hgd : o.guard = none) (x : Operand) (ho : o.op = .call { callee := .builtin .clear, args := #[x], argTypes := #[43] }) {g n cap : Nat} (i : Nat) (ys : List Smp)
    (hx : a.eval x = .slice (some ⟨g, i * 2, none⟩) (n - i) (cap - i)) (HO : Kd.R k56 56 W base (fun _ => True) (.slice (some ⟨g, 0, none⟩) n cap) ys) (hi : i < n) (HB : Below base w0 W)
    (h : ∀ w1, Kd.R k56 56 w1 base (fun _ => True) (.slice (some ⟨g, 0, none⟩) i cap) (ys.take i) → Below base w0 w1 → wpList Try.prog ops Q rest a w1) : wpList Try.prog ops Q (o :: rest) a W := by
  have hnc := (Kd.R_reads' HO).2.1
  refine R_clear k56 base hN hgd x 43 56 ho Try.underlying43 (.agg #[.int .i64 0, .int .i64 0]) ?hz (by simp [Value.cells, Value.oneCell']; rfl) ?hz1 ys (fun _ => True) ?hx (Nat.le_of_lt hi) HO HB h
  case hz => exact Try.zeroValue56
  case hz1 => intro u hu; simp [Value.cells, Value.oneCell'] at hu; subst hu; rfl
  case hx =>
    rw [hx, if_neg (by omega)]
    simp only [Option.map_some, add_plain]
    rfl
def cutP (a b : Int) (x : Smp) : Bool := decide (x.f0 < a) || decide (b ≤ x.f0)
def cutL (l : List Smp) (a b : Int) : List Smp := l.filter fun x => !cutP a b x

def callv_ : Unit := ()
theorem goesV_ {P : Program} {ops : Array Oper} {Q : Exit → Act → World → Prop} {rest : List Oper} {oi : Oper} {a : Act} {w : World} (N : Option Tmp) (hd : oi.dst = N) (hg : oi.guard = none) {x : Operand} {f : FuncId} {cap : Array Value} {fn : Func} {xs : Array Operand} {ts : Array TypeId}
    (hop : oi.op = .call { callee := .value x, args := xs, argTypes := ts }) (hx : a.eval x = .func (.func f) #[] cap) (hf : P.funcs[f]? = some fn) (hname : (fn.name == "runtime.NumGoroutine") = false) (hb : fn.body.isSome = true) (args : Array Value) (hargs : xs.map a.eval ++ cap = args)
    (h : Calls P f args w fun e w' => ∃ v, e = .returned v ∧ wpList P ops Q rest (a.put N v) w') : wpList P ops Q (oi :: rest) a w := by
  refine wpList_plain hg fun K hK => ?_
  have he := enters_ hf hname hb args w
  have hrun : (execOp a.eval oi).run P w = .ok (.enter f args) w := by
    unfold execOp
    simp [hop, hx, resolve, Deferred.ofValue, invoke, hargs, he]
  unfold Oper.wp
  rw [hrun, Oper.upon_enter]
  refine h.mono fun e w'' hh => ?_
  obtain ⟨v, rfl, hk⟩ := hh
  subst hd
  exact hK _ _ hk

end Go.Proofs.Ytbeckinldcbhcaa.QFnExactSamplesCut
