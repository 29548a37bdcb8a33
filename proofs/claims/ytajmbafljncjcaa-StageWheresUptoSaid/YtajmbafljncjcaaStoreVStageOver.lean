/- Stores into a row of api.Value, api.Span of one's own: a whole element, a field of it. -/
import Derived.Test.YtajmbafljncjcaaTblStageOver
namespace Go.Proofs.Ytajmbafljncjcaa.PStageOver
open Go.RowKit Go.Proofs.YtajmbafljncjcaaW.PrintWords Go.Proofs.YtajmbafljncjcaaW.PrintLast Go.Proofs.YtajmbafljncjcaaW.PrintMore Go.Proofs.Ytajmbafljncjcaa.Stage Go.Proofs.Ytajmbafljncjcaa.Mp
set_option linter.unusedVariables false
set_option linter.unusedSimpArgs false

/-- Where a row of one's own begins. -/
theorem R_head {α : Type} {d : Kd α} {e base : Nat} {w : World} {ok : Nat → Prop} {A : Option Addr} {n c : Nat} {xs : List α} (h : d.R e w base ok (.slice A n c) xs) (hn : 0 < xs.length) : ∃ g cells, A = some ⟨g, 0, none⟩ ∧ w.heap[g]? = some (.cells cells e (0, 0)) ∧ base ≤ g := by
  obtain ⟨inner, how⟩ := Kd.R_own h
  have hsave := how
  rcases how.2 with ⟨h0, hz⟩ | ⟨g, cap, cur, hv', _⟩
  · omega
  · injection hv' with e1 e2 e3
    subst e1
    obtain ⟨cells, hc⟩ := own_typed hsave g rfl
    exact ⟨g, cells, rfl, hc, own_base hsave g rfl⟩
theorem R_cellsV {w : World} {base : Nat} {ok : Nat → Prop} {g n c : Nat} {xs : List S40} (h : Kd.R k40 40 w base ok (.slice (some ⟨g, 0, none⟩) n c) xs) (i : Nat) (hi : i < xs.length) :
    xs.length = n ∧ w.cell? ⟨g, i * 3, none⟩ = some (.int .i32 (rd_T40 xs (i : Int)).f0) ∧ w.cell? ⟨g, i * 3 + 1, none⟩ = some (.int .i32 (rd_T40 xs (i : Int)).f1) ∧ w.cell? ⟨g, i * 3 + 2, none⟩ = some (.int .i64 (rd_T40 xs (i : Int)).f2) := by
  obtain ⟨A', c', hv, _, hC⟩ := Kd.R_reads h
  injection hv with e1 e2 e3
  subst e1
  obtain ⟨ad, e4, k0, k1, k2⟩ := at_T40 hC (i : Int) (by omega) (by omega)
  cases e4
  rw [Int.toNat_natCast, Addr.add_lit] at k0 k1 k2
  simp only [Nat.zero_add] at k0 k1 k2
  exact ⟨e2.symm, k0, k1, k2⟩
theorem R_cellsP {w : World} {base : Nat} {ok : Nat → Prop} {g n c : Nat} {xs : List S47} (h : Kd.R k47 47 w base ok (.slice (some ⟨g, 0, none⟩) n c) xs) (i : Nat) (hi : i < xs.length) :
    xs.length = n ∧ w.cell? ⟨g, i * 2, none⟩ = some (.int .i32 (rd_T47 xs (i : Int)).f0) ∧ w.cell? ⟨g, i * 2 + 1, none⟩ = some (.int .i32 (rd_T47 xs (i : Int)).f1) := by
  obtain ⟨A', c', hv, _, hC⟩ := Kd.R_reads h
  injection hv with e1 e2 e3
  subst e1
  obtain ⟨ad, e4, k0, k1⟩ := at_T47 hC (i : Int) (by omega) (by omega)
  cases e4
  rw [Int.toNat_natCast, Addr.add_lit] at k0 k1
  simp only [Nat.zero_add] at k0 k1
  exact ⟨e2.symm, k0, k1⟩

section
variable {ops : Array Oper} {rest : List Oper} {o : Oper} {a : Act} {Q : Exit → Act → World → Prop} {w0 W : World}
theorem store_V (base : Nat) (hN : o.dst = none) (hgd : o.guard = none) (p x : Operand) (ho : o.op = .store 40 p x) {g n c : Nat} (i : Nat) (xs : List S40) (y : S40) {ok : Nat → Prop}
    (hp : a.eval p = .pointer (some ⟨g, i * 3, none⟩)) (hx : a.eval x = .agg #[.int .i32 y.f0, .int .i32 y.f1, .int .i64 y.f2]) (HO : Kd.R k40 40 W base ok (.slice (some ⟨g, 0, none⟩) n c) xs) (hi : i < xs.length) (HB : Below base w0 W)
    (h : ∀ w1, Kd.R k40 40 w1 base ok (.slice (some ⟨g, 0, none⟩) n c) (xs.set i y) → Below base w0 w1 → W.grownBy w1 (some g) → wpList Try.prog ops Q rest a w1) : wpList Try.prog ops Q (o :: rest) a W := by
  obtain ⟨hn, k0, k1, k2⟩ := R_cellsV HO i hi
  refine Kd.R_store k40 (w0 := w0) base hN hgd 40 p x ho 40 (g := g) (n := n) (cap := c) (i : Int) 0 xs y (.agg #[.int .i32 y.f0, .int .i32 y.f1, .int .i64 y.f2]) [.int .i32 y.f0, .int .i32 y.f1, .int .i64 y.f2] [.int .i32 (rd_T40 xs (i : Int)).f0, .int .i32 (rd_T40 xs (i : Int)).f1, .int .i64 (rd_T40 xs (i : Int)).f2] ok (fun _ => False) hp ?_ hx rfl (by kernel_rfl) ?_ HO (by omega) (by omega) rfl ?_ (Nat.le_of_ble_eq_true rfl) (k40_mkM _ _ _ y) (fun _ h => h.elim) HB ?_
  · show i * 3 = (i : Int).toNat * 3 + 0
    rw [Int.toNat_natCast]; rfl
  · intro q hq
    simp only [List.mem_cons, List.not_mem_nil, or_false] at hq
    rcases hq with rfl | rfl | rfl <;> rfl
  · intro j u hu
    rw [Int.toNat_natCast]
    show W.cell? ⟨g, i * 3 + j, none⟩ = some u
    match j, hu with
    | 0, hu => cases hu; exact k0
    | 1, hu => cases hu; exact k1
    | 2, hu => cases hu; exact k2
  · intro w1 h1 h2 h3
    rw [Int.toNat_natCast] at h1
    exact h w1 h1 h2 h3
theorem store_VN (base : Nat) (hN : o.dst = none) (hgd : o.guard = none) (p x : Operand) (ho : o.op = .store 3 p x) {g n c : Nat} (i : Nat) (xs : List S40) (y : Int) {ok : Nat → Prop}
    (hp : a.eval p = .pointer (some ⟨g, i * 3 + 2, none⟩)) (hx : a.eval x = .int .i64 y) (HO : Kd.R k40 40 W base ok (.slice (some ⟨g, 0, none⟩) n c) xs) (hi : i < xs.length) (HB : Below base w0 W)
    (h : ∀ w1, Kd.R k40 40 w1 base ok (.slice (some ⟨g, 0, none⟩) n c) (xs.set i ⟨(rd_T40 xs (i : Int)).f0, (rd_T40 xs (i : Int)).f1, y⟩) → Below base w0 w1 → W.grownBy w1 (some g) → wpList Try.prog ops Q rest a w1) : wpList Try.prog ops Q (o :: rest) a W := by
  obtain ⟨hn, k0, k1, k2⟩ := R_cellsV HO i hi
  refine Kd.R_store k40 (w0 := w0) base hN hgd 3 p x ho 40 (g := g) (n := n) (cap := c) (i : Int) 2 xs ⟨(rd_T40 xs (i : Int)).f0, (rd_T40 xs (i : Int)).f1, y⟩ (.int .i64 y) [.int .i64 y] [.int .i32 (rd_T40 xs (i : Int)).f0, .int .i32 (rd_T40 xs (i : Int)).f1, .int .i64 (rd_T40 xs (i : Int)).f2] ok (fun _ => False) hp ?_ hx rfl (by kernel_rfl) ?_ HO (by omega) (by omega) rfl ?_ (Nat.le_of_ble_eq_true rfl) (k40_mkM _ _ _ _) (fun _ h => h.elim) HB ?_
  · show i * 3 + 2 = (i : Int).toNat * 3 + 2
    rw [Int.toNat_natCast]
  · intro q hq
    simp only [List.mem_cons, List.not_mem_nil, or_false] at hq
    rcases hq with rfl
    rfl
  · intro j u hu
    rw [Int.toNat_natCast]
    show W.cell? ⟨g, i * 3 + j, none⟩ = some u
    match j, hu with
    | 0, hu => cases hu; exact k0
    | 1, hu => cases hu; exact k1
    | 2, hu => cases hu; exact k2
  · intro w1 h1 h2 h3
    rw [Int.toNat_natCast] at h1
    exact h w1 h1 h2 h3
theorem store_VT (base : Nat) (hN : o.dst = none) (hgd : o.guard = none) (p x : Operand) (ho : o.op = .store 21 p x) {g n c : Nat} (i : Nat) (xs : List S40) (y : Int) {ok : Nat → Prop}
    (hp : a.eval p = .pointer (some ⟨g, i * 3 + 1, none⟩)) (hx : a.eval x = .int .i32 y) (HO : Kd.R k40 40 W base ok (.slice (some ⟨g, 0, none⟩) n c) xs) (hi : i < xs.length) (HB : Below base w0 W)
    (h : ∀ w1, Kd.R k40 40 w1 base ok (.slice (some ⟨g, 0, none⟩) n c) (xs.set i ⟨(rd_T40 xs (i : Int)).f0, y, (rd_T40 xs (i : Int)).f2⟩) → Below base w0 w1 → W.grownBy w1 (some g) → wpList Try.prog ops Q rest a w1) : wpList Try.prog ops Q (o :: rest) a W := by
  obtain ⟨hn, k0, k1, k2⟩ := R_cellsV HO i hi
  refine Kd.R_store k40 (w0 := w0) base hN hgd 21 p x ho 40 (g := g) (n := n) (cap := c) (i : Int) 1 xs ⟨(rd_T40 xs (i : Int)).f0, y, (rd_T40 xs (i : Int)).f2⟩ (.int .i32 y) [.int .i32 y] [.int .i32 (rd_T40 xs (i : Int)).f0, .int .i32 (rd_T40 xs (i : Int)).f1, .int .i64 (rd_T40 xs (i : Int)).f2] ok (fun _ => False) hp ?_ hx rfl (by kernel_rfl) ?_ HO (by omega) (by omega) rfl ?_ (Nat.le_of_ble_eq_true rfl) (k40_mkM _ _ _ _) (fun _ h => h.elim) HB ?_
  · show i * 3 + 1 = (i : Int).toNat * 3 + 1
    rw [Int.toNat_natCast]
  · intro q hq
    simp only [List.mem_cons, List.not_mem_nil, or_false] at hq
    rcases hq with rfl
    rfl
  · intro j u hu
    rw [Int.toNat_natCast]
    show W.cell? ⟨g, i * 3 + j, none⟩ = some u
    match j, hu with
    | 0, hu => cases hu; exact k0
    | 1, hu => cases hu; exact k1
    | 2, hu => cases hu; exact k2
  · intro w1 h1 h2 h3
    rw [Int.toNat_natCast] at h1
    exact h w1 h1 h2 h3
theorem store_PF (base : Nat) (hN : o.dst = none) (hgd : o.guard = none) (p x : Operand) (ho : o.op = .store 21 p x) {g n c : Nat} (i : Nat) (xs : List S47) (y : Int) {ok : Nat → Prop}
    (hp : a.eval p = .pointer (some ⟨g, i * 2, none⟩)) (hx : a.eval x = .int .i32 y) (HO : Kd.R k47 47 W base ok (.slice (some ⟨g, 0, none⟩) n c) xs) (hi : i < xs.length) (HB : Below base w0 W)
    (h : ∀ w1, Kd.R k47 47 w1 base ok (.slice (some ⟨g, 0, none⟩) n c) (xs.set i ⟨y, (rd_T47 xs (i : Int)).f1⟩) → Below base w0 w1 → W.grownBy w1 (some g) → wpList Try.prog ops Q rest a w1) : wpList Try.prog ops Q (o :: rest) a W := by
  obtain ⟨hn, k0, k1⟩ := R_cellsP HO i hi
  refine Kd.R_store k47 (w0 := w0) base hN hgd 21 p x ho 47 (g := g) (n := n) (cap := c) (i : Int) 0 xs ⟨y, (rd_T47 xs (i : Int)).f1⟩ (.int .i32 y) [.int .i32 y] [.int .i32 (rd_T47 xs (i : Int)).f0, .int .i32 (rd_T47 xs (i : Int)).f1] ok (fun _ => False) hp ?_ hx rfl (by kernel_rfl) ?_ HO (by omega) (by omega) rfl ?_ (Nat.le_of_ble_eq_true rfl) (k47_mkM _ _ _ _) (fun _ h => h.elim) HB ?_
  · show i * 2 = (i : Int).toNat * 2 + 0
    rw [Int.toNat_natCast]; rfl
  · intro q hq
    simp only [List.mem_cons, List.not_mem_nil, or_false] at hq
    rcases hq with rfl
    rfl
  · intro j u hu
    rw [Int.toNat_natCast]
    show W.cell? ⟨g, i * 2 + j, none⟩ = some u
    match j, hu with
    | 0, hu => cases hu; exact k0
    | 1, hu => cases hu; exact k1
  · intro w1 h1 h2 h3
    rw [Int.toNat_natCast] at h1
    exact h w1 h1 h2 h3
end

end Go.Proofs.Ytajmbafljncjcaa.PStageOver
