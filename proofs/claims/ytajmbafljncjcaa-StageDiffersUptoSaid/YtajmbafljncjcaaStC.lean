/- made: how memory stands while a table is made. made: a table of what is laid over each block. -/
import Derived.Test.YtajmbafljncjcaaStB
import Derived.Carry
/- ### MadeSt: made: how memory stands while a table is made. -/
namespace Go.Proofs.Ytajmbafljncjcaa.Stage
open Go.RowKit Go.Proofs.YtajmbafljncjcaaW.PrintWords Go.Proofs.YtajmbafljncjcaaW.PrintLast Go.Proofs.YtajmbafljncjcaaW.PrintMore Go.Proofs.Ytajmbafljncjcaa.Mp
set_option linter.unusedVariables false
set_option linter.unusedSimpArgs false

/- ### words -/
def ekB (xs : List Nat) : Value := .agg (natCells .u16 xs).toArray
def evB (n : Nat) : Value := .int .u16 (n : Int)
def zeros128 : List Nat := List.replicate 128 0
def whCells (wh : List Nat) (vu vp : Value) : List Value := natCells .u16 (wh ++ List.replicate (8704 - wh.length) 0) ++ [vu, vp]

theorem whCells_len {wh : List Nat} (h : wh.length ≤ 8704) (vu vp : Value) : (whCells wh vu vp).length = 8706 := by
  simp [whCells, natCells]; omega
theorem whCells_u {wh : List Nat} (h : wh.length ≤ 8704) (vu vp : Value) : (whCells wh vu vp)[8704]? = some vu := by
  have : (natCells .u16 (wh ++ List.replicate (8704 - wh.length) 0)).length = 8704 := by simp [natCells]; omega
  rw [whCells, List.getElem?_append_right (by omega), this]; rfl
theorem whCells_p {wh : List Nat} (h : wh.length ≤ 8704) (vu vp : Value) : (whCells wh vu vp)[8705]? = some vp := by
  have : (natCells .u16 (wh ++ List.replicate (8704 - wh.length) 0)).length = 8704 := by simp [natCells]; omega
  rw [whCells, List.getElem?_append_right (by omega), this]; rfl
theorem whCells_setU {wh : List Nat} (h : wh.length ≤ 8704) (vu vp v : Value) : (whCells wh vu vp).set 8704 v = whCells wh v vp := by
  have : (natCells .u16 (wh ++ List.replicate (8704 - wh.length) 0)).length = 8704 := by simp [natCells]; omega
  rw [whCells, List.set_append_right _ _ (by omega), this]; rfl
theorem whCells_setP {wh : List Nat} (h : wh.length ≤ 8704) (vu vp v : Value) : (whCells wh vu vp).set 8705 v = whCells wh vu v := by
  have : (natCells .u16 (wh ++ List.replicate (8704 - wh.length) 0)).length = 8704 := by simp [natCells]; omega
  rw [whCells, List.set_append_right _ _ (by omega), this]; rfl
theorem whCells_at {wh : List Nat} (vu vp : Value) (h : wh.length < 8704) : ∃ x : Nat, (whCells wh vu vp)[wh.length]? = some (.int .u16 (x : Int)) := by
  have h1 : wh.length < (wh ++ List.replicate (8704 - wh.length) 0).length := by simp; omega
  rw [whCells, List.getElem?_append_left (by rw [natCells_len]; exact h1), natCells_get _ _ _ h1]
  exact ⟨_, rfl⟩
theorem whCells_set {wh : List Nat} (vu vp : Value) (n : Nat) (h : wh.length < 8704) : (whCells wh vu vp).set wh.length (.int .u16 (n : Int)) = whCells (wh ++ [n]) vu vp := by
  have h1 : wh.length < (wh ++ List.replicate (8704 - wh.length) 0).length := by simp; omega
  rw [whCells, List.set_append_left _ _ (by rw [natCells_len]; exact h1), natCells_set, whCells]
  congr 2
  rw [List.set_append_right _ _ (Nat.le_refl _), Nat.sub_self]
  obtain ⟨m, hm⟩ : ∃ m, 8704 - wh.length = m + 1 := ⟨8704 - wh.length - 1, by omega⟩
  rw [hm, List.replicate_succ, List.set_cons_zero, List.length_append, List.length_singleton, show 8704 - (wh.length + 1) = m from by omega, List.append_assoc]
  rfl

theorem zipIdx_place {a : List Nat} : ∀ (ul : List (List Nat)) (s : Nat), place a (ul.zipIdx s) = if idxB a ul < ul.length then some (idxB a ul) else none
  | [], s => by simp [place, idxB]
  | b :: ul, s => by
    rw [List.zipIdx_cons, place, idxB]
    by_cases e : a = b
    · simp [e]
    · rw [if_neg e, if_neg e, zipIdx_place ul (s + 1)]
      by_cases h : idxB a ul < ul.length
      · rw [if_pos h, if_pos (by simpa using h)]; rfl
      · rw [if_neg h, if_neg (by simpa using h)]; rfl
theorem zipIdx_at {a : List Nat} (ul : List (List Nat)) : at? a ul.zipIdx = if idxB a ul < ul.length then some (idxB a ul) else none := by
  rw [at?, zipIdx_place]
  by_cases h : idxB a ul < ul.length
  · rw [if_pos h]
    simp [List.getElem?_zipIdx, List.getElem?_eq_getElem h]
  · rw [if_neg h]; rfl
theorem zipIdx_put {a : List Nat} (ul : List (List Nat)) (h : ¬ idxB a ul < ul.length) : put a ul.length ul.zipIdx = (ul ++ [a]).zipIdx := by
  rw [put, zipIdx_place, if_neg h, List.zipIdx_append]
  simp

theorem size_u16 : (Try.prog.info? 89).map (·.size) = some 1 := by kernel_rfl
theorem zero_u16 : (Try.prog.info? 89).map (·.zero) = some (some (.int .u16 0)) := by kernel_rfl
theorem keyB : KeyOk Try.prog 91 ekB (fun xs => xs.length = 128) := by
  have h := nats_ok (P := Try.prog) (t := 91) (e := 89) (n := 128) (k := .u16) Try.underlying91 Try.underlying89 (sizeOf_run size_u16)
  exact h

theorem info_block : (Try.prog.info? 91).map (fun i => (i.zero, i.size, i.bytes)) = some (some (.agg (natCells .u16 zeros128).toArray), 128, 256) := by kernel_rfl
theorem info_bool : (Try.prog.info? 4).map (fun i => (i.zero, i.size, i.bytes)) = some (some (.bool false), 1, 1) := by kernel_rfl
def chkZ : List Value → Nat → Bool
  | [.slice none 0 0, .slice none 0 0], 0 => true
  | .int .u16 0 :: l, n + 1 => chkZ l n
  | _, _ => false
theorem chkZ_eq : ∀ (n : Nat) (l : List Value), chkZ l n = true → l = natCells .u16 (List.replicate n 0) ++ [.slice none 0 0, .slice none 0 0]
  | 0, l, h => by
    unfold chkZ at h
    split at h
    · rfl
    · rename_i e; cases e
    · cases h
  | n + 1, l, h => by
    unfold chkZ at h
    split at h
    · rename_i e; cases e
    · rename_i l' m e
      obtain rfl : m = n := by omega
      rw [chkZ_eq _ _ h]
      rfl
    · cases h
theorem zero_Table0 : (match (Try.prog.info? 96).map (·.zero) with | some (some (.agg cs)) => chkZ cs.toList 8704 | _ => false) = true := by kernel_rfl
theorem zero_Table : (Try.prog.info? 96).map (·.zero) = some (some (.agg (whCells [] (.slice none 0 0) (.slice none 0 0)).toArray)) := by
  have h := zero_Table0
  split at h
  · rename_i cs e
    rw [e]
    have := chkZ_eq 8704 cs.toList h
    rw [← Array.toArray_toList (xs := cs), this]
    rfl
  · cases h
theorem zeros128_len : zeros128.length = 128 := by simp [zeros128]
theorem zc_block : Try.zeroCells91 = (natCells .u16 zeros128).toArray := by kernel_rfl
theorem size_block : (Try.prog.info? 91).map (·.size) = some 128 := by kernel_rfl
theorem zero_block : (Try.prog.info? 91).map (·.zero) = some (some (.agg (natCells .u16 zeros128).toArray)) := by kernel_rfl
theorem laid_block : (Try.prog.info? 91).map (fun i => (i.size, i.zero.map (·.cells.size))) = some (128, some 128) := by kernel_rfl

theorem call_enters {P : Program} {f : FuncId} {fn : Func} (hf : P.funcs[f]? = some fn) (hname : (fn.name == "runtime.NumGoroutine") = false) (hb : fn.body.isNone = false) (args : Array Value) (w : World) : (callFunc f args).run P w = .ok (.enter f args) w := by
  have h1 : ¬ fn.name = "runtime.NumGoroutine" := by simpa using hname
  have h2 : ¬ fn.body = none := fun e => by rw [e] at hb; cases hb
  simp [callFunc, go_sem, hf, h1, h2]
/- ### what is handed in -/
def FillPost (Pr : Nat → Prop) (S : Nat → World → Prop) (bs : Nat → List Nat) (B i : Nat) (W : World) (e : Ending) (W' : World) : Prop :=
  ∃ laid, e = .returned (.bool laid) ∧ (laid = false → bs i = zeros128) ∧ S (i + 1) W' ∧ Blk W' B (natCells .u16 (bs i)) 91 ∧ Keeps (fun k => Pr k ∨ k = B) W W'

/-- A function that lays numbers over a block: Pr: the blocks of its own that it writes; S: how they stand ahead of block i. -/
structure Fill (w0 : World) (N : FuncId) (cap : Array Value) (Pr : Nat → Prop) (S : Nat → World → Prop) (bs : Nat → List Nat) : Prop where
  pr : ∀ k, Pr k → k < w0.heap.size
  ent : ∀ (args : Array Value) (W : World), (callFunc N args).run Try.prog W = .ok (.enter N args) W
  start : S 0 w0
  stable : ∀ i (W W' : World), S i W → (∀ k, k < w0.heap.size → W'.heap[k]? = W.heap[k]?) → S i W'
  len : ∀ i, (bs i).length = 128
  call : ∀ i, i < 8704 → ∀ (W : World) (B : Nat), S i W → w0.heap.size ≤ B → Blk W B (natCells .u16 zeros128) 91 → w0.heap.size ≤ W.heap.size →
    Calls Try.prog N (#[.int .i32 ((i : Int) * 128), .pointer (some ⟨B, 0, none⟩)] ++ cap) W (FillPost Pr S bs B i W)

/- ### the state -/
structure MadeSt (w0 W : World) (T M B : Nat) (wh : List Nat) (um uu up : List (List Nat)) (vu vp : Value) (cur : List Nat) : Prop where
  hT : Blk W T (whCells wh vu vp) 96
  hM : MapAt ekB evB W M um.zipIdx
  hB : Blk W B (natCells .u16 cur) 91
  hu : W.ownsRow w0.heap.size 91 128 vu uu.length (uu.flatMap (natCells .u16))
  hp : W.ownsRow w0.heap.size 4 1 vp up.length (up.map fun b => .bool (flatB b))
  nb : vu.ownBlock ≠ some B
  lT : w0.heap.size ≤ T
  lM : w0.heap.size ≤ M
  lB : w0.heap.size ≤ B
  wl : wh.length ≤ 8704
  l128 : ∀ b ∈ um, b.length = 128
  lW : w0.heap.size ≤ W.heap.size

section
variable {w0 W W1 : World} {T M B : Nat} {wh : List Nat} {um uu up : List (List Nat)} {vu vp : Value} {cur : List Nat}

theorem own_not_typed {w : World} {base n b : Nat} {e t : TypeId} {size : Nat} {v : Value} {xs cs : List Value} (h : w.ownsRow base e size v n xs) (hb : Blk w b cs t) (hne : e ≠ t) : v.ownBlock ≠ some b := fun hk => by
  obtain ⟨cells, hc⟩ := own_typed h b hk
  rw [show w.heap[b]? = _ from hb] at hc
  injection hc with hc
  injection hc with _ hc
  exact hne hc.symm
theorem own_not_map {w : World} {base n b : Nat} {e : TypeId} {size : Nat} {v : Value} {xs : List Value} {l : List (List Nat × Nat)} (h : w.ownsRow base e size v n xs) (hb : MapAt ekB evB w b l) : v.ownBlock ≠ some b := fun hk => by
  obtain ⟨cells, hc⟩ := own_typed h b hk
  obtain ⟨es, clock, hm, _⟩ := hb
  rw [hm] at hc
  injection hc with hc
  cases hc
theorem blk_not_map {w : World} {b m : Nat} {cs : List Value} {t : TypeId} {l : List (List Nat × Nat)} (h : Blk w b cs t) (hb : MapAt ekB evB w m l) : b ≠ m := fun e => by
  obtain ⟨es, clock, hm, _⟩ := hb
  subst e
  rw [show w.heap[b]? = _ from h] at hm
  injection hm with hm
  cases hm
theorem blk_types {w : World} {b m : Nat} {cs cs' : List Value} {t t' : TypeId} (h : Blk w b cs t) (h' : Blk w m cs' t') (hne : t ≠ t') : b ≠ m := fun e => by
  subst e
  have : some (Obj.cells cs.toArray t (0, 0)) = some (Obj.cells cs'.toArray t' (0, 0)) := by
    rw [← show w.heap[b]? = _ from h, ← show w.heap[b]? = _ from h']
  injection this with this
  injection this with _ this
  exact hne this

/-- All blocks from the begin of the call on are as they were, but b's. -/
theorem MadeSt.filled (h : MadeSt w0 W T M B wh um uu up vu vp cur) {Pr : Nat → Prop} (hk : Keeps (fun k => Pr k ∨ k = B) W W1) (hp : ∀ k, Pr k → k < w0.heap.size) {cur' : List Nat} (hB1 : Blk W1 B (natCells .u16 cur') 91) :
    MadeSt w0 W1 T M B wh um uu up vu vp cur' := by
  have hn : ∀ k, w0.heap.size ≤ k → k ≠ B → ¬ (Pr k ∨ k = B) := fun k h1 h2 h3 => by
    rcases h3 with h3 | h3
    · have := hp k h3; omega
    · exact h2 h3
  have hTB := blk_types h.hT h.hB (by decide)
  have hMB := blk_not_map h.hB h.hM
  refine ⟨h.hT.kept hk (hn T h.lT hTB), h.hM.block (hk.block M h.hM.lt (hn M h.lM (Ne.symm hMB))), hB1, own_move h.hu (fun k hb => hk.block k (own_lt h.hu k hb) (hn k (own_base h.hu k hb) (fun e => h.nb (e ▸ hb)))), own_move h.hp (fun k hb => hk.block k (own_lt h.hp k hb) (hn k (own_base h.hp k hb) (fun e => own_not_typed h.hp h.hB (by decide) (e ▸ hb)))), h.nb, h.lT, h.lM, h.lB, h.wl, h.l128, Nat.le_trans h.lW hk.size⟩

theorem MadeSt.drewN (h : MadeSt w0 W T M B wh um uu up vu vp cur) (n : Nat) : MadeSt w0 (W.drewN n) T M B wh um uu up vu vp cur :=
  ⟨h.hT, h.hM, h.hB, h.hu, h.hp, h.nb, h.lT, h.lM, h.lB, h.wl, h.l128, h.lW⟩

theorem MadeSt.drew (h : MadeSt w0 W T M B wh um uu up vu vp cur) : MadeSt w0 W.drew T M B wh um uu up vu vp cur :=
  ⟨h.hT, h.hM, h.hB, h.hu, h.hp, h.nb, h.lT, h.lM, h.lB, h.wl, h.l128, h.lW⟩
theorem MadeSt.keepU (h : MadeSt w0 W T M B wh um uu up vu vp cur) {o : Obj} {w2 : World} (hg : (W.alloc o).grownBy w2 vu.ownBlock) : w2.cell? ⟨T, 8704, none⟩ = some vu ∧ w2.frozen? ⟨T, 8704, none⟩ = false := by
  have hT2 : Blk w2 T (whCells wh vu vp) 96 := (((World.grownBy_alloc W o _).trans hg).block T h.hT.lt (fun e => own_not_typed h.hu h.hT (by decide) e.symm)).trans h.hT
  exact ⟨(hT2.cell 8704).trans (whCells_u h.wl _ _), hT2.free _⟩
theorem MadeSt.keepP (h : MadeSt w0 W T M B wh um uu up vu vp cur) {o : Obj} {w2 : World} (hg : (W.alloc o).grownBy w2 vp.ownBlock) : w2.cell? ⟨T, 8705, none⟩ = some vp ∧ w2.frozen? ⟨T, 8705, none⟩ = false := by
  have hT2 : Blk w2 T (whCells wh vu vp) 96 := (((World.grownBy_alloc W o _).trans hg).block T h.hT.lt (fun e => own_not_typed h.hp h.hT (by decide) e.symm)).trans h.hT
  exact ⟨(hT2.cell 8705).trans (whCells_p h.wl _ _), hT2.free _⟩

theorem MadeSt.old (h : MadeSt w0 W T M B wh um uu up vu vp cur) {e sz n : Nat} {v : Value} {xs : List Value} (ho : W.ownsRow w0.heap.size e sz v n xs) {o : Obj} {w2 : World} (hg : (W.alloc o).grownBy w2 v.ownBlock) (j : Nat) (u : Value) :
    ∀ i, i < w0.heap.size → (w2.setCell ⟨T, j, none⟩ u).heap[i]? = W.heap[i]? := fun i hi =>
  (Below.heap_setCell _ _ _ _ (fun e => by have := h.lT; simp at e; omega)).trans (((World.grownBy_alloc W o _).trans hg).block i (Nat.lt_of_lt_of_le hi h.lW) (fun e => by have := own_base ho i e.symm; omega))
theorem MadeSt.oldKeeps (h : MadeSt w0 W T M B wh um uu up vu vp cur) {e sz n : Nat} {v : Value} {xs : List Value} (ho : W.ownsRow w0.heap.size e sz v n xs) {o : Obj} {w2 : World} (hg : (W.alloc o).grownBy w2 v.ownBlock) (j : Nat) (u : Value) {Pr : Nat → Prop} (hk : Keeps Pr w0 W) :
    Keeps Pr w0 (w2.setCell ⟨T, j, none⟩ u) :=
  (hk.grown ((World.grownBy_alloc W o _).trans hg) (fun k e hk => by have := own_base ho k e; omega)).setCell _ _ (fun hh => by have := h.lT; simp at hh; omega)

/-- A number of a block, stored. -/
theorem MadeSt.which (h : MadeSt w0 W T M B wh um uu up vu vp cur) (n : Nat) (hl : wh.length < 8704) : MadeSt w0 (W.setCell ⟨T, wh.length, none⟩ (.int .u16 (n : Int))) T M B (wh ++ [n]) um uu up vu vp cur := by
  have hTB := blk_types h.hT h.hB (by decide)
  have hTM := blk_not_map h.hT h.hM
  have h1 := own_not_typed h.hu h.hT (by decide)
  have h2 := own_not_typed h.hp h.hT (by decide)
  have hs := h.hT.set wh.length (.int .u16 (n : Int))
  rw [whCells_set _ _ _ hl] at hs
  refine ⟨hs, h.hM.block (Below.heap_setCell _ _ _ _ (Ne.symm hTM)), h.hB.other (Ne.symm hTB) _, own_move h.hu (fun k hb => Below.heap_setCell _ _ _ _ (fun e => h1 (by rw [hb]; exact congrArg some e))), own_move h.hp (fun k hb => Below.heap_setCell _ _ _ _ (fun e => h2 (by rw [hb]; exact congrArg some e))), h.nb, h.lT, h.lM, h.lB, by simp; omega, h.l128, by rw [size_setCell]; exact h.lW⟩

/-- b, written whole. -/
theorem MadeSt.cleared (h : MadeSt w0 W T M B wh um uu up vu vp cur) (cur' : List Nat) : MadeSt w0 (W.setRow B (natCells .u16 cur').toArray) T M B wh um uu up vu vp cur' := by
  have hTB := blk_types h.hT h.hB (by decide)
  have hMB := blk_not_map h.hB h.hM
  have h2 := own_not_typed h.hp h.hB (by decide)
  refine ⟨h.hT.setRow_other hTB _, h.hM.block (Go.setRow_other _ _ _ _ (Ne.symm hMB)), h.hB.setRow _, own_move h.hu (fun k hb => Go.setRow_other _ _ _ _ (fun e => h.nb (e ▸ hb))), own_move h.hp (fun k hb => Go.setRow_other _ _ _ _ (fun e => h2 (e ▸ hb))), h.nb, h.lT, h.lM, h.lB, h.wl, h.l128, by rw [size_setRow]; exact h.lW⟩

/-- A new key. -/
theorem MadeSt.keyed (h : MadeSt w0 W T M B wh um uu up vu vp cur) {o : Obj} {um' : List (List Nat)} (hm : MapAt ekB evB (setObjAt W M o) M um'.zipIdx) (h128 : ∀ b ∈ um', b.length = 128) : MadeSt w0 (setObjAt W M o) T M B wh um' uu up vu vp cur := by
  have hTM := blk_not_map h.hT h.hM
  have hMB := blk_not_map h.hB h.hM
  have h1 := own_not_map h.hu h.hM
  have h2 := own_not_map h.hp h.hM
  have hs : ∀ k, k ≠ M → (setObjAt W M o).heap[k]? = W.heap[k]? := fun k hk => by simp [setObjAt, Array.getElem?_setIfInBounds, Ne.symm hk]
  refine ⟨h.hT.setObj hTM _, hm, h.hB.setObj hMB _, own_move h.hu (fun k hb => hs k (fun e => h1 (e ▸ hb))), own_move h.hp (fun k hb => hs k (fun e => h2 (e ▸ hb))), h.nb, h.lT, h.lM, h.lB, h.wl, h128, by simp [setObjAt]; exact h.lW⟩

/-- A block more. -/
theorem MadeSt.unlike (h : MadeSt w0 W T M B wh um uu up vu vp cur) {g cap : Nat} {b : List Nat} {o : Obj} {w2 : World} (hown : w2.ownsRow w0.heap.size 91 128 (.slice (some ⟨g, 0, none⟩) (uu.length + 1) cap) (uu.length + 1) (uu.flatMap (natCells .u16) ++ natCells .u16 b))
    (hg : (W.alloc o).grownBy w2 vu.ownBlock) (hat : vu.ownBlock = some g ∨ g = W.heap.size + 1) :
    MadeSt w0 (w2.setCell ⟨T, 8704, none⟩ (.slice (some ⟨g, 0, none⟩) (uu.length + 1) cap)) T M B wh um (uu ++ [b]) up (.slice (some ⟨g, 0, none⟩) (uu.length + 1) cap) vp cur := by
  have hTB := blk_types h.hT h.hB (by decide)
  have hTM := blk_not_map h.hT h.hM
  have h1 := own_not_typed h.hu h.hT (by decide)
  have h2 := own_not_typed h.hp h.hT (by decide)
  have h3 := own_not_map h.hu h.hM
  have hg' : W.grownBy w2 vu.ownBlock := (World.grownBy_alloc W o _).trans hg
  have hk : ∀ k, k < W.heap.size → vu.ownBlock ≠ some k → w2.heap[k]? = W.heap[k]? := fun k hk hn => hg'.block k hk (fun e => hn e.symm)
  have hT2 : Blk w2 T (whCells wh vu vp) 96 := (hk T h.hT.lt h1).trans h.hT
  have hs := hT2.set 8704 (.slice (some ⟨g, 0, none⟩) (uu.length + 1) cap)
  rw [whCells_setU h.wl] at hs
  have hgT : T ≠ g := fun e => by
    rcases hat with hat | hat
    · exact h1 (by rw [hat, e])
    · have := h.hT.lt; omega
  refine ⟨hs, h.hM.block ((Below.heap_setCell _ _ _ _ (Ne.symm hTM)).trans (hk M h.hM.lt h3)), ?_, ?_, ?_, ?_, h.lT, h.lM, h.lB, h.wl, h.l128, by rw [size_setCell]; exact Nat.le_trans h.lW hg'.size⟩
  · exact (Below.heap_setCell _ _ _ _ (Ne.symm hTB)).trans ((hk B h.hB.lt h.nb).trans h.hB)
  · have := own_move hown (w1 := w2.setCell ⟨T, 8704, none⟩ (.slice (some ⟨g, 0, none⟩) (uu.length + 1) cap)) (fun k hb => Below.heap_setCell _ _ _ _ (fun e => hgT (by simp [Value.ownBlock] at hb; rw [hb]; exact e.symm)))
    simpa [List.flatMap_append] using this
  · refine own_move h.hp (fun k hb => (Below.heap_setCell _ _ _ _ (fun e => h2 (by rw [hb]; exact congrArg some e))).trans (hk k (own_lt h.hp k hb) (fun e => ?_)))
    have := own_type_ne h.hu h.hp (by decide)
    rcases this with h5 | h5
    · rw [h5] at e; cases e
    · exact h5 (e.trans hb.symm)
  · intro e
    simp only [Value.ownBlock, Option.some.injEq] at e
    rcases hat with hat | hat
    · exact h.nb (by rw [hat, e])
    · have := h.hB.lt; omega

/-- Whether it has one number alone. -/
theorem MadeSt.plained (h : MadeSt w0 W T M B wh um uu up vu vp cur) {g cap : Nat} {b : List Nat} {o : Obj} {w2 : World} (hown : w2.ownsRow w0.heap.size 4 1 (.slice (some ⟨g, 0, none⟩) (up.length + 1) cap) (up.length + 1) (up.map (fun b => .bool (flatB b)) ++ [.bool (flatB b)]))
    (hg : (W.alloc o).grownBy w2 vp.ownBlock) (hat : vp.ownBlock = some g ∨ g = W.heap.size + 1) :
    MadeSt w0 (w2.setCell ⟨T, 8705, none⟩ (.slice (some ⟨g, 0, none⟩) (up.length + 1) cap)) T M B wh um uu (up ++ [b]) vu (.slice (some ⟨g, 0, none⟩) (up.length + 1) cap) cur := by
  have hTB := blk_types h.hT h.hB (by decide)
  have hTM := blk_not_map h.hT h.hM
  have h1 := own_not_typed h.hp h.hT (by decide)
  have h2 := own_not_typed h.hu h.hT (by decide)
  have h3 := own_not_map h.hp h.hM
  have h4 := own_not_typed h.hp h.hB (by decide)
  have hg' : W.grownBy w2 vp.ownBlock := (World.grownBy_alloc W o _).trans hg
  have hk : ∀ k, k < W.heap.size → vp.ownBlock ≠ some k → w2.heap[k]? = W.heap[k]? := fun k hk hn => hg'.block k hk (fun e => hn e.symm)
  have hT2 : Blk w2 T (whCells wh vu vp) 96 := (hk T h.hT.lt h1).trans h.hT
  have hs := hT2.set 8705 (.slice (some ⟨g, 0, none⟩) (up.length + 1) cap)
  rw [whCells_setP h.wl] at hs
  have hgT : T ≠ g := fun e => by
    rcases hat with hat | hat
    · exact h1 (by rw [hat, e])
    · have := h.hT.lt; omega
  refine ⟨hs, h.hM.block ((Below.heap_setCell _ _ _ _ (Ne.symm hTM)).trans (hk M h.hM.lt h3)), ?_, ?_, ?_, h.nb, h.lT, h.lM, h.lB, h.wl, h.l128, by rw [size_setCell]; exact Nat.le_trans h.lW hg'.size⟩
  · exact (Below.heap_setCell _ _ _ _ (Ne.symm hTB)).trans ((hk B h.hB.lt h4).trans h.hB)
  · refine own_move h.hu (fun k hb => (Below.heap_setCell _ _ _ _ (fun e => h2 (by rw [hb]; exact congrArg some e))).trans (hk k (own_lt h.hu k hb) (fun e => ?_)))
    have := own_type_ne h.hp h.hu (by decide)
    rcases this with h5 | h5
    · rw [h5] at e; cases e
    · exact h5 (e.trans hb.symm)
  · have := own_move hown (w1 := w2.setCell ⟨T, 8705, none⟩ (.slice (some ⟨g, 0, none⟩) (up.length + 1) cap)) (fun k hb => Below.heap_setCell _ _ _ _ (fun e => hgT (by simp [Value.ownBlock] at hb; rw [hb]; exact e.symm)))
    simpa using this
theorem mem_zipIdx {ul : List (List Nat)} {p : List Nat × Nat} (h : p ∈ ul.zipIdx) : p.1 ∈ ul := by
  obtain ⟨i, hi⟩ := List.mem_iff_getElem?.1 h
  rw [List.getElem?_zipIdx] at hi
  obtain ⟨b, hb, rfl⟩ := Option.map_eq_some_iff.1 hi
  exact List.mem_of_getElem? hb
theorem MadeSt.look (h : MadeSt w0 W T M B wh um uu up vu vp cur) (b : List Nat) (hb : b.length = 128) :
    (Instr.lookup 139 (.map (some M)) (ekB b) true).run Try.prog W = .ok (.tuple #[evB ((if idxB b um < um.length then some (idxB b um) else none).getD 0), .bool (if idxB b um < um.length then some (idxB b um) else none).isSome]) W := by
  have := run_lookup keyB (ev := evB) Try.underlying139 (z := 0) (fun w => zeroValue_run zero_u16 w) h.hM (fun p hp => h.l128 p.1 (mem_zipIdx hp)) b hb
  rwa [zipIdx_at] at this
theorem MadeSt.look_in (h : MadeSt w0 W T M B wh um uu up vu vp cur) (b : List Nat) (hb : b.length = 128) (hin : idxB b um < um.length) :
    (Instr.lookup 139 (.map (some M)) (ekB b) true).run Try.prog W = .ok (.tuple #[.int .u16 ((idxB b um : Nat) : Int), .bool true]) W := by
  have := h.look b hb
  rw [if_pos hin] at this
  exact this
theorem MadeSt.look_out (h : MadeSt w0 W T M B wh um uu up vu vp cur) (b : List Nat) (hb : b.length = 128) (hin : ¬ idxB b um < um.length) :
    (Instr.lookup 139 (.map (some M)) (ekB b) true).run Try.prog W = .ok (.tuple #[.int .u16 0, .bool false]) W := by
  have := h.look b hb
  rw [if_neg hin] at this
  exact this
theorem MadeSt.look_any (h : MadeSt w0 W T M B wh um uu up vu vp cur) (b : List Nat) (hb : b.length = 128) :
    ∃ (n0 : Nat) (th : Bool), (Instr.lookup 139 (.map (some M)) (ekB b) true).run Try.prog W = .ok (.tuple #[.int .u16 (n0 : Int), .bool th]) W ∧ (th = true → idxB b um < um.length ∧ n0 = idxB b um) ∧ (th = false → ¬ idxB b um < um.length) := by
  by_cases hin : idxB b um < um.length
  · exact ⟨_, true, h.look_in b hb hin, fun _ => ⟨hin, rfl⟩, (fun h => by cases h)⟩
  · exact ⟨0, false, h.look_out b hb hin, (fun h => by cases h), fun _ => hin⟩
theorem MadeSt.upd (h : MadeSt w0 W T M B wh um uu up vu vp cur) (b : List Nat) (hb : b.length = 128) (hin : ¬ idxB b um < um.length) :
    ∃ o, (Instr.mapUpdate 139 (.map (some M)) (ekB b) (.int .u16 ((um.length : Nat) : Int))).run Try.prog W = .ok () (setObjAt W M o) ∧ MadeSt w0 (setObjAt W M o) T M B wh (um ++ [b]) uu up vu vp cur := by
  obtain ⟨o, h1, h2⟩ := run_update keyB (ev := evB) Try.underlying139 h.hM (fun p hp => h.l128 p.1 (mem_zipIdx hp)) b hb um.length
  rw [zipIdx_put _ hin] at h2
  refine ⟨o, h1, h.keyed h2 (fun c hc => ?_)⟩
  rcases List.mem_append.1 hc with hc | hc
  · exact h.l128 c hc
  · rw [List.mem_singleton.1 hc]; exact hb
theorem flat_get : ∀ (ul : List (List Nat)) (k j : Nat), (∀ b ∈ ul, b.length = 128) → k < ul.length → j < 128 → (ul.flatMap (natCells .u16))[k * 128 + j]? = some (.int .u16 ((ul.getD k []).getD j 0 : Nat))
  | [], k, j, _, h, _ => by simp at h
  | b :: ul, 0, j, hl, _, hj => by
    have hb := hl b List.mem_cons_self
    rw [List.flatMap_cons, Nat.zero_mul, Nat.zero_add, List.getElem?_append_left (by rw [natCells_len]; omega), natCells_get _ _ _ (by omega)]
    rfl
  | b :: ul, k + 1, j, hl, hk, hj => by
    have hb := hl b List.mem_cons_self
    have ih := flat_get ul k j (fun c hc => hl c (List.mem_cons_of_mem _ hc)) (by simpa using hk) hj
    rw [List.flatMap_cons, List.getElem?_append_right (by rw [natCells_len]; omega), natCells_len, hb, show (k + 1) * 128 + j - 128 = k * 128 + j from by omega, ih]
    rfl
theorem MadeSt.done (h : MadeSt w0 W T M B wh um um um vu vp cur) {bl : List (List Nat)} (hc : (wh, um) = canonB bl) (hl : bl.length = 8704) (h16 : ∀ b ∈ bl, ∀ j, b.getD j 0 ≤ 65535) : ∃ g c g' c', TabIn W T g c g' c' (tabOf bl) := by
  have hok := canonB_ok bl
  rw [← hc] at hok
  have hwl : wh.length = 8704 := by rw [← hl]; exact hok.len
  have hpos : 0 < um.length := by
    have := (hok.at_ 0 (by omega)).1
    exact Nat.lt_of_le_of_lt (Nat.zero_le _) this
  have hfew : um.length ≤ bl.length := hok.few
  obtain ⟨g, c, rfl, hgb, hgl⟩ := h.hu.form hpos
  obtain ⟨g', c', rfl, _, _⟩ := h.hp.form (by simpa using hpos)
  have e1 : (tabOf bl).which = wh := by unfold tabOf; rw [← hc]
  have e2 : (tabOf bl).unlike = um := by unfold tabOf; rw [← hc]
  have e3 : (tabOf bl).plain = um.map flatB := by unfold tabOf; rw [← hc]
  have hcap : um.length ≤ c := by
    rcases h.hu.2 with ⟨h', _⟩ | ⟨_, _, _, h', _, _, hh, _⟩
    · cases h'
    · injection h' with _ h' h''; omega
  have hcap' : um.length ≤ c' := by
    rcases h.hp.2 with ⟨h', _⟩ | ⟨_, _, _, h', _, _, hh, _⟩
    · cases h'
    · injection h' with _ h' h''; omega
  refine ⟨g, c, g', c', { len := by rw [e1]; exact hwl, plen := by rw [e3, e2]; simp, cap := by rw [e2]; exact hcap, cap' := by rw [e2]; exact hcap', few := by rw [e2]; omega, idx := ?_, blk := ?_, num := ?_, hw := ?_, hu := ?_, hp := ?_, hub := ?_, hpb := ?_ }⟩
  · intro i hi; rw [e1, e2]; exact (hok.at_ i (by omega)).1
  · intro k hk
    rw [e2] at hk ⊢
    refine h.l128 _ ?_
    rw [List.getD_eq_getElem?_getD, List.getElem?_eq_getElem hk]; exact List.getElem_mem hk
  · intro k j hk hj
    rw [e2] at hk ⊢
    refine h16 _ ((hok.mem _).1 ?_) j
    rw [List.getD_eq_getElem?_getD, List.getElem?_eq_getElem hk]; exact List.getElem_mem hk
  · intro i hi
    rw [h.hT.cell i, e1, whCells, hwl, Nat.sub_self, List.replicate_zero, List.append_nil, List.getElem?_append_left (by rw [natCells_len]; omega), natCells_get _ _ _ (by omega)]
  · rw [h.hT.cell, whCells_u h.wl, e2]
  · rw [h.hT.cell, whCells_p h.wl, e2]
  · intro k j hk hj
    rw [e2] at hk ⊢
    have := h.hu.cells (g := g) rfl (k * 128 + j) _ (flat_get um k j h.l128 hk hj)
    rwa [add_plain] at this
  · intro k hk
    rw [e2] at hk
    have := h.hp.cells (g := g') rfl k (.bool (flatB (um.getD k []))) (by simp [List.getD_eq_getElem?_getD, List.getElem?_eq_getElem hk])
    rw [add_plain] at this
    rw [this, e3]
    simp [List.getD_eq_getElem?_getD, List.getElem?_eq_getElem hk]
end

def postMade (w0 : World) (Pr : Nat → Prop) (S : Nat → World → Prop) (bs : Nat → List Nat) (e : Ending) (w' : World) : Prop :=
  ∃ b g c g' c', e = .returned (.pointer (some ⟨b, 0, none⟩)) ∧ TabIn w' b g c g' c' (tabOf ((List.range 8704).map bs)) ∧ S 8704 w' ∧ Keeps Pr w0 w'

theorem made_start (w0 : World) : MadeSt w0 (((w0.alloc (.cells (whCells [] (.slice none 0 0) (.slice none 0 0)).toArray 96)).alloc (.map #[] 0)).alloc (.cells (natCells .u16 zeros128).toArray 91)) w0.heap.size (w0.heap.size + 1) (w0.heap.size + 2) [] [] [] [] (.slice none 0 0) (.slice none 0 0) zeros128 := by
  have hM := mapAt_new (w0.alloc (.cells (whCells [] (.slice none 0 0) (.slice none 0 0)).toArray 96)) ekB evB
  have hB := blk_new ((w0.alloc (.cells (whCells [] (.slice none 0 0) (.slice none 0 0)).toArray 96)).alloc (.map #[] 0)) (natCells .u16 zeros128) 91
  simp only [alloc_size] at hM hB
  refine ⟨((blk_new w0 _ _).alloc _).alloc _, ?_, hB, ?_, ?_, ?_, ?_, ?_, ?_, ?_, ?_, ?_⟩
  · exact hM.block (Below.heap_alloc _ _ _ (by simp))
  · exact World.ownsRow_nil _ _ _ _
  · exact World.ownsRow_nil _ _ _ _
  · simp [Value.ownBlock]
  all_goals simp
  all_goals omega

end Go.Proofs.Ytajmbafljncjcaa.Stage

/- ### Made: made: a table of what is laid over each block. -/
namespace Go.Proofs.Ytajmbafljncjcaa.Stage
open Go.RowKit Go.Proofs.YtajmbafljncjcaaW.PrintWords Go.Proofs.YtajmbafljncjcaaW.PrintLast Go.Proofs.YtajmbafljncjcaaW.PrintMore Go.Proofs.Ytajmbafljncjcaa.Mp
set_option linter.unusedVariables false
set_option linter.unusedSimpArgs false
attribute [local go_sem ↓] Go.wp_at_zero Go.wp_at_succ
theorem ld_block (ρ : Operand → Value) (dst : Option Tmp) (x : Operand) (t' : TypeId) (pos : String) (af : Array Edge) (g : Option (Nat × Bool)) (W : World) (h : rangeOk W (ρ x) 128 = true) :
    Sem.run Try.prog (execOp ρ { dst := dst, op := .load 91 x, type := t', pos := pos, after := af, guard := g }) W = .ok (.value (.agg (rangeOf W (ρ x) 128))) W :=
  run_load_range Try.underlying91 rfl size_block ρ dst x t' pos af g W h
theorem bs_block (ρ : Operand → Value) (dst : Option Tmp) (x : Operand) (t' : TypeId) (pos : String) (af : Array Edge) (g : Option (Nat × Bool)) (W : World) (h : (match ρ x with | .agg cs => decide (cs.size = 128) | _ => false) = true) :
    Sem.run Try.prog (execOp ρ { dst := dst, op := .buildSlice 93 1 #[(0, x)], type := t', pos := pos, after := af, guard := g }) W = .ok (.value (.slice (some ⟨W.heap.size, 0, none⟩) 1 1)) (W.alloc (.cells (ρ x).cells 91)) :=
  op_buildSlice_row Try.underlying93 laid_block (by omega) (by omega) ρ dst x t' pos af g W h
attribute [local go_sem ↓] ld_block bs_block

set_option maxRecDepth 100000 in
set_option maxHeartbeats 1600000 in
theorem made_calls {w0 : World} {N : FuncId} {cap : Array Value} {Pr : Nat → Prop} {S : Nat → World → Prop} {bs : Nat → List Nat} (F : Fill w0 N cap Pr S bs) (h16 : ∀ i, i < 8704 → ∀ j, (bs i).getD j 0 ≤ 65535) :
    Calls Try.prog 58 #[.func (.func N) #[] cap] w0 (postMade w0 Pr S bs) := by
  have HF := Aside0.mk F
  have ent := F.ent
  have hmm := @run_makeMap Try.prog
  clear F
  go_enter Try.func58, Try.ntmps58
  go_wp2_with (first
    | (with_reducible refine wpList_build0 rfl 96 rfl _ zero_Table Try.underlying96 (.inr ⟨_, rfl, by decide⟩) ?_)
    | (with_reducible refine wpList_box rfl 96 (.tmp 11) rfl _ rfl ?_)
    | (with_reducible refine wpList_alloc rfl 91 rfl _ zero_block ?_)
    | fail)
  have HS := Aside0.mk (made_start w0)
  have HK := Aside0.mk (show Keeps Pr w0 (((w0.alloc (.cells (whCells [] (.slice none 0 0) (.slice none 0 0)).toArray 96)).alloc (.map #[] 0)).alloc (.cells (natCells .u16 zeros128).toArray 91)) from (((Keeps.refl Pr w0).alloc _).alloc _).alloc _)
  have HF0 := Aside0.mk (HF.out.stable 0 w0 (((w0.alloc (.cells (whCells [] (.slice none 0 0) (.slice none 0 0)).toArray 96)).alloc (.map #[] 0)).alloc (.cells (natCells .u16 zeros128).toArray 91)) HF.out.start (fun k hk => by
    rw [Below.heap_alloc _ _ _ (by simp; omega), Below.heap_alloc _ _ _ (by simp; omega), Below.heap_alloc _ _ _ hk]))
  generalize (((w0.alloc (.cells (whCells [] (.slice none 0 0) (.slice none 0 0)).toArray 96)).alloc (.map #[] 0)).alloc (.cells (natCells .u16 zeros128).toArray 91)) = W1 at HS HK HF0
  obtain ⟨T, hT⟩ : ∃ T, T = w0.heap.size := ⟨_, rfl⟩
  obtain ⟨M, hM⟩ : ∃ M, M = w0.heap.size + 1 := ⟨_, rfl⟩
  obtain ⟨B, hB⟩ : ∃ B, B = w0.heap.size + 2 := ⟨_, rfl⟩
  rw [← hB, ← hM, ← hT] at HS
  rw [← hB, ← hM, ← hT]
  have HD := Aside0.mk (show T ≠ M ∧ T ≠ B ∧ M ≠ B from ⟨by omega, by omega, by omega⟩)
  clear hT hM hB
  go_loopg [5, 14] 8704 (fun q v5 v14 wr => ∃ (k : Nat) (zz : Int) (wh : List Nat) (ul : List (List Nat)) (vu vp : Value), k ≤ 8704 ∧ 8704 - k ≤ q ∧ v14 = .int .i64 (k : Int) ∧ v5 = .int .i64 zz ∧ -1 ≤ zz ∧ zz ≤ 8704 ∧
    Aside0 ((wh, ul) = canonB ((List.range k).map bs)) ∧ Aside0 (0 ≤ zz → zz.toNat < ul.length ∧ ul.getD zz.toNat [] = zeros128) ∧ Aside0 (MadeSt w0 wr T M B wh ul ul ul vu vp zeros128) ∧ Aside0 (S k wr) ∧ Aside0 (Keeps Pr w0 wr))
  case atStart => exact ⟨0, -1, [], [], .slice none 0 0, .slice none 0 0, by omega, by omega, rfl, rfl, by omega, by omega, ⟨rfl⟩, ⟨fun h => by omega⟩, HS, HF0, HK⟩
  case round =>
    obtain ⟨k, zz, wh, ul, vu, vp, hk, hq, rfl, rfl, hz1, hz2, hC, hZ, hSt, hS, hK⟩ := hrel
    clear HS HF0 HK
    by_cases hlt : k < 8704
    · have hlt' : (k : Int) < 8704 := by omega
      go_wp2_with fail
      refine (HF.out.call k hlt wr B hS.out hSt.out.lB hSt.out.hB hSt.out.lW).mono ?_
      rintro e w1 ⟨laid, rfl, hl0, hS1, hB1, hk1⟩
      have hSt1 := Aside0.mk (hSt.out.filled hk1 HF.out.pr hB1)
      have hK1 := Aside0.mk (hK.out.then hk1 (fun i hi h => h.resolve_right (fun e => by have := hSt.out.lB; omega)))
      have HS1 := Aside0.mk hS1
      have HL0 := Aside0.mk hl0
      clear hSt hS hK hS1 hB1 hk1 hl0
      have hok := canonB_ok ((List.range k).map bs)
      rw [← hC.out] at hok
      have hwl : wh.length = k := by simpa using hok.len
      have hfew : ul.length ≤ k := by simpa using hok.few
      have HOK := Aside0.mk hok
      have HC1 := Aside0.mk (show canonB ((List.range (k + 1)).map bs) = stepB (wh, ul) (bs k) from by rw [List.range_succ, List.map_append, List.map_singleton, canonB_snoc, ← hC.out])
      have hlen := HF.out.len k
      have HL := Aside0.mk hlen
      have HW := Aside0.mk hwl
      obtain ⟨x0, hx0⟩ := whCells_at vu vp (show wh.length < 8704 by omega)
      have cT := hSt1.out.hT.cell k
      rw [hwl] at hx0
      rw [hx0] at cT
      have fT := hSt1.out.hT.free k
      clear hok hx0 hlen hwl
      by_cases hA : laid = false ∧ 0 ≤ zz
      · obtain ⟨rfl, hz0⟩ := hA
        obtain ⟨z, rfl⟩ := Int.eq_ofNat_of_zero_le hz0
        have hzz := hZ.out hz0
        rw [Int.toNat_natCast] at hzz
        have hb0 := HL0.out rfl
        have HZ1 := Aside0.mk (show idxB (bs k) ul = z from idxB_at HOK.out.nodup hzz.1 (by rw [hb0]; exact hzz.2))
        have eu : IntKind.u16.wrap (z : Int) = (z : Int) := IntWalk.u16_in _ (by omega)
        have HSt2 := Aside0.mk (hSt1.out.which z (by rw [HW.out]; exact hlt))
        rw [HW.out] at HSt2
        have HS2 := Aside0.mk (HF.out.stable (k + 1) w1 (w1.setCell ⟨T, k, none⟩ (.int .u16 (z : Int))) HS1.out (fun i hi => Below.heap_setCell _ _ _ _ (fun e => by have := hSt1.out.lT; simp at e; omega)))
        have HK2 := Aside0.mk (hK1.out.setCell ⟨T, k, none⟩ (.int .u16 (z : Int)) (fun h => by have := hSt1.out.lT; simp at h; omega))
        have HZ := Aside0.mk hzz
        have HCn := Aside0.mk (show (wh ++ [z], ul) = canonB ((List.range (k + 1)).map bs) from by
          rw [HC1.out]
          simp [stepB, HZ1.out, hzz.1])
        have HS4 := Aside0.mk (show MadeSt w0 (w1.setCell ⟨T, k, none⟩ (.int .u16 (z : Int))) T M B (wh ++ [z]) ul ul ul vu vp zeros128 from by rw [← hb0]; exact HSt2.out)
        clear hzz hb0 hSt1 HS1 hK1
        go_wp2
        go_roundg (gk - 1)
        case measure => omega
        case rel => exact ⟨k + 1, (z : Int), wh ++ [z], ul, vu, vp, by omega, by omega, by go_num, rfl, by omega, hz2, HCn, ⟨fun _ => by rw [Int.toNat_natCast]; exact HZ.out⟩, HS4, HS2, HK2⟩
      · go_upto_region 9 with (fail)
        go_cut [27] from 22 to 27 (fun v27 wx => v27 = .bool false ∧ w1 = wx)
        case first =>
          cases laid with
          | true =>
            go_wp2
            go_meet
            case rel => exact ⟨rfl, rfl⟩
          | false =>
            have hz : ¬ 0 ≤ zz := fun h => hA ⟨rfl, h⟩
            have hz' : decide (0 ≤ zz) = false := decide_eq_false hz
            clear hA
            go_wp2
            go_meet
            case rel => exact ⟨rfl, rfl⟩
        case rest =>
          obtain ⟨rfl, rfl⟩ := hcut
          clear cT fT
          have hBl := Aside0.mk hSt1.out.hB
          obtain ⟨n0, th, hrun, ht1, ht0⟩ := hSt1.out.look_any (bs k) HL.out
          have HR2 := Aside0.mk hrun
          have HT1 := Aside0.mk ht1
          have HT0 := Aside0.mk ht0
          clear hrun ht1 ht0
          go_upto_if 42 with (first
            | (with_reducible refine wpList_load_blk rfl 91 (.tmp 6) rfl B rfl 91 _ _ hBl.out Try.underlying91 rfl (by rw [natCells_len, HL.out]; exact size_block) ?_)
            | (with_reducible refine wpList_lookup rfl (.tmp 36) (.tmp 37) 139 true rfl (.map (some M)) (ekB (bs k)) _ rfl rfl HR2.out ?_)
            | fail)
          go_cut [9] from 43 to 71 (fun v9 wx => ∃ (n : Nat) (ul' : List (List Nat)) (vu' vp' : Value), v9 = .int .u16 (n : Int) ∧ n ≤ 8704 ∧ ul'.length ≤ k + 1 ∧ Aside0 (stepB (wh, ul) (bs k) = (wh ++ [n], ul')) ∧ Aside0 (n < ul'.length ∧ ul'.getD n [] = bs k) ∧ Aside0 (MadeSt w0 wx T M B wh ul' ul' ul' vu' vp' (bs k)) ∧ Aside0 (S (k + 1) wx) ∧ Aside0 (Keeps Pr w0 wx))
          case first =>
            cases th with
            | true =>
              obtain ⟨h1, h2⟩ := HT1.out rfl
              have HE := Aside0.mk (show stepB (wh, ul) (bs k) = (wh ++ [n0], ul) from by simp [stepB, h1, h2])
              have HE' := Aside0.mk (show n0 < ul.length ∧ ul.getD n0 [] = bs k from ⟨by omega, by rw [h2]; exact idxB_get _ _ h1⟩)
              have hn : n0 ≤ 8704 := by omega
              clear h1 h2
              go_wp2
              go_meet
              case rel => exact ⟨n0, ul, vu, vp, rfl, hn, by omega, HE, HE', hSt1, HS1, hK1⟩
            | false =>
              have hnin := HT0.out rfl
              have hnl : idxB (bs k) ul = ul.length := by have := idxB_le (bs k) ul; omega
              have HE := Aside0.mk (show stepB (wh, ul) (bs k) = (wh ++ [ul.length], ul ++ [bs k]) from by simp [stepB, hnl])
              have HE' := Aside0.mk (show ul.length < (ul ++ [bs k]).length ∧ (ul ++ [bs k]).getD ul.length [] = bs k from ⟨by simp, getD_snoc_at _ _ _⟩)
              obtain ⟨Au, cu, rfl⟩ := own_slice hSt1.out.hu
              obtain ⟨Ap, cp, rfl⟩ := own_slice hSt1.out.hp
              have cU := (hSt1.out.hT.cell 8704).trans (whCells_u hSt1.out.wl _ _)
              have e16 : IntKind.u16.wrap (ul.length : Int) = (ul.length : Int) := IntWalk.u16_in _ (by omega)
              obtain ⟨o, hupd, hSt2⟩ := hSt1.out.upd (bs k) HL.out hnin
              have HU := Aside0.mk hupd
              have HB2 := Aside0.mk hSt2.hB
              have HS2 := Aside0.mk hSt2
              have HF2 := Aside0.mk (HF.out.stable (k + 1) w1 (setObjAt w1 M o) HS1.out (fun i hi => by have := hSt1.out.lM; simp [setObjAt, Array.getElem?_setIfInBounds, show ¬ M = i from by omega]))
              have HK2 := Aside0.mk (hK1.out.setObj M o (fun h => by have := hSt1.out.lM; omega))
              clear hupd hSt2 hnin hnl
              go_upto_region 15 with (first
                | (with_reducible refine wpList_load_blk rfl 91 (.tmp 6) rfl B rfl 91 _ _ hBl.out Try.underlying91 rfl (by rw [natCells_len, HL.out]; exact size_block) ?_)
                | (with_reducible refine wpList_update rfl rfl (.tmp 49) (.tmp 50) (.tmp 51) 139 rfl (.map (some M)) (ekB (bs k)) (.int .u16 ((ul.length : Nat) : Int)) rfl rfl rfl _ HU.out ?_)
                | fail)
              clear cU hBl HU
              generalize setObjAt w1 M o = W2 at HB2 HS2 HF2 HK2
              have hcb : (natCells .u16 (bs k)).length = 128 := by rw [natCells_len]; exact HL.out
              have hrg := range_blk HB2.out.drew
              rw [hcb] at hrg
              obtain ⟨rk, ro⟩ := hrg
              have cU := (HS2.out.hT.cell 8704).trans (whCells_u HS2.out.wl _ _)
              have cU1 : (W2.alloc (.cells (natCells .u16 (bs k)).toArray 91)).cell? ⟨T, 8704, none⟩ = some (.slice Au ul.length cu) := ((HS2.out.hT.alloc _).cell 8704).trans (whCells_u HS2.out.wl _ _)
              obtain ⟨i0, hi0, hz0, hz1, hz2⟩ := info_parts info_block
              have HI := Aside0.mk (show Try.prog.info? 91 = some i0 ∧ i0.zero = some (.agg (natCells .u16 zeros128).toArray) ∧ i0.size = 128 ∧ i0.bytes = 256 from ⟨hi0, hz0, hz1, hz2⟩)
              have HCB := Aside0.mk hcb
              clear hi0 hz0 hz1 hz2
              have hlw := HS2.out.lW
              go_cut [9] from 52 to 61 (fun v9 wx => v9 = .int .u16 (ul.length : Int) ∧ ∃ g cap, Aside0 (MadeSt w0 wx T M B wh (ul ++ [bs k]) (ul ++ [bs k]) ul (.slice (some ⟨g, 0, none⟩) (ul.length + 1) cap) (.slice Ap ul.length cp) (bs k)) ∧ Aside0 (S (k + 1) wx) ∧ Aside0 (Keeps Pr w0 wx))
              case first =>
                go_region_law ((refine step_append_lies _ (by rfl) (.tmp 56) (.tmp 58) 93 (by rfl) w0.heap.size 91 i0 _ 128 256 Try.underlying93 HI.out.1 HI.out.2.1 HI.out.2.2.1 HI.out.2.2.2 (by simp [Value.cells, natCells_len, zeros128_len]) (by omega) (.slice Au ul.length cu) ul.length (ul.flatMap (natCells .u16)) (by simp [Act.eval, Act.put]) (HS2.out.drew.hu.alloc _) ⟨W2.heap.size, 0, none⟩ 1 1 (natCells .u16 (bs k)) (by simp [Act.eval, Act.put]) (by rw [HCB.out]) (World.news_of_block (cs := (natCells .u16 (bs k)).toArray) (t := 91) (fr := (0, 0)) (heap_alloc_new W2.drew _)) (natCells_one _ _) (by omega) (by unfold maxLen; omega) (by omega) (by simp; omega) (W2.heap.size + 1) (by simp) ?_; intro g cap w2 hown1 hgrow hat hlt2; have hkU := (HS2.out.drew.keepU hgrow); have cU2 := hkU.1; have fU2 := hkU.2))
                all_goals
                  go_wp2
                  go_meet
                  case rel => exact ⟨rfl, g, cap, ⟨HS2.out.drew.unlike hown1 hgrow hat⟩, ⟨HF.out.stable (k + 1) W2 _ HF2.out (HS2.out.drew.old HS2.out.drew.hu hgrow _ _)⟩, ⟨HS2.out.drew.oldKeeps HS2.out.drew.hu hgrow _ _ HK2.out.drew⟩⟩
              case rest =>
                obtain ⟨rfl, g, cap', hS3, hF3, hK3⟩ := hcut
                clear rk ro cU cU1 HB2 HS2 HF2 HK2 HI
                have cP := (hS3.out.hT.cell 8705).trans (whCells_p hS3.out.wl _ _)
                have cP1 : (wc.alloc (.cells #[.bool (flatB (bs k))] 4)).cell? ⟨T, 8705, none⟩ = some (.slice Ap ul.length cp) := ((hS3.out.hT.alloc _).cell 8705).trans (whCells_p hS3.out.wl _ _)
                have HFC := Aside0.mk (show ∀ j, j < 128 → wc.cell? ⟨B, j, none⟩ = some (.int .u16 ((bs k).getD j 0 : Nat)) from fun j hj => (hS3.out.hB.cell j).trans (natCells_get _ _ _ (by rw [HL.out]; exact hj)))
                obtain ⟨j0, hj0, hy0, hy1, hy2⟩ := info_parts info_bool
                have HJ := Aside0.mk (show Try.prog.info? 4 = some j0 ∧ j0.zero = some (.bool false) ∧ j0.size = 1 ∧ j0.bytes = 1 from ⟨hj0, hy0, hy1, hy2⟩)
                clear hj0 hy0 hy1 hy2
                have hlw3 := hS3.out.lW
                go_upto_region 16 with (fail)
                go_region_law ((first
                  | (refine step_append_lies _ (by rfl) (.tmp 66) (.tmp 68) 94 (by rfl) w0.heap.size 4 j0 _ 1 1 Try.underlying94 HJ.out.1 HJ.out.2.1 HJ.out.2.2.1 HJ.out.2.2.2 (by simp [Value.cells]) (by omega) (.slice Ap ul.length cp) ul.length (ul.map fun b => .bool (flatB b)) (by simp [Act.eval, Act.put]) (hS3.out.drew.hp.alloc _) ⟨wc.heap.size, 0, none⟩ 1 1 [.bool (flatB (bs k))] (by simp [Act.eval, Act.put]) (by simp) (World.news_of_block (cs := #[.bool (flatB (bs k))]) (t := 4) (fr := (0, 0)) (heap_alloc_new wc.drew _)) (by simp [Value.oneCell']) (by omega) (by unfold maxLen; omega) (by omega) (by simp; omega) (wc.heap.size + 1) (by simp) ?_; intro g2 cap2 w2 hown2 hgrow2 hat2 hlt2; have hkP := (hS3.out.drew.keepP hgrow2); have cP2 := hkP.1; have fP2 := hkP.2)
                  | (go_simp; go_at_call 92; refine (flat_calls _ B (bs k) (by exact HFC.out)).mono ?_; rintro e w' ⟨rfl, rfl⟩)))
                all_goals
                  go_wp2
                  go_meet
                  case rel => exact ⟨ul.length, ul ++ [bs k], _, _, rfl, by omega, by simp; omega, HE, HE', ⟨hS3.out.drew.plained hown2 hgrow2 hat2⟩, ⟨HF.out.stable (k + 1) wc _ hF3.out (hS3.out.drew.old hS3.out.drew.hp hgrow2 _ _)⟩, ⟨hS3.out.drew.oldKeeps hS3.out.drew.hp hgrow2 _ _ hK3.out.drew⟩⟩
          case rest =>
            obtain ⟨n, ul', vu', vp', rfl, hn, hul', hst, hnu, hS2, hF2, hK2⟩ := hcut
            have hn16 : IntKind.u16.wrap (n : Int) = (n : Int) := IntWalk.u16_in _ (by omega)
            obtain ⟨x1, hx1⟩ := whCells_at vu' vp' (show wh.length < 8704 by rw [HW.out]; exact hlt)
            have cT := hS2.out.hT.cell k
            rw [HW.out] at hx1
            rw [hx1] at cT
            have fT := hS2.out.hT.free k
            have hS3 := hS2.out.which n (by rw [HW.out]; exact hlt)
            rw [HW.out] at hS3
            have HS3 := Aside0.mk hS3
            have HF3 := Aside0.mk (HF.out.stable (k + 1) wc (wc.setCell ⟨T, k, none⟩ (.int .u16 (n : Int))) hF2.out (fun i hi => Below.heap_setCell _ _ _ _ (fun e => by have := hS2.out.lT; simp at e; omega)))
            have HK3 := Aside0.mk (hK2.out.setCell ⟨T, k, none⟩ (.int .u16 (n : Int)) (fun h => by have := hS2.out.lT; simp at h; omega))
            have HB3 := Aside0.mk hS3.hB
            have HCn := Aside0.mk (show (wh ++ [n], ul') = canonB ((List.range (k + 1)).map bs) from by rw [HC1.out, hst.out])
            clear hx1 hS3 hS2 hF2 hK2 hSt1 HS1 hK1 hBl HR2 HT1 HT0
            have HFS := Aside0.mk (HF.out.stable (k + 1) (wc.setCell ⟨T, k, none⟩ (.int .u16 (n : Int))) ((wc.setCell ⟨T, k, none⟩ (.int .u16 (n : Int))).setRow B (natCells .u16 zeros128).toArray) HF3.out (fun i hi => Go.setRow_other _ _ _ _ (fun e => by have := HS3.out.lB; omega)))
            have HZ5 := Aside0.mk (show (0 : Int) ≤ zz → zz.toNat < ul'.length ∧ ul'.getD zz.toNat [] = zeros128 from fun h => by
              have h1 := hZ.out h
              have h2 := stepB_ext wh ul (bs k) n ul' hst.out zz.toNat h1.1
              exact ⟨h2.1, h2.2.trans h1.2⟩)
            cases laid with
            | true =>
              go_wp2_with (first
                | (with_reducible refine wpList_store_blk' rfl rfl 91 (.tmp 6) (.tmp 79) rfl B rfl 91 _ (natCells .u16 zeros128) _ rfl zc_block HB3.out (by rw [natCells_len, natCells_len, HL.out, zeros128_len]) (by rw [natCells_len, HL.out]; exact size_block) (natCells_one _ _) ?_)
                | fail)
              go_roundg (gk - 1)
              case measure => omega
              case rel => exact ⟨k + 1, zz, wh ++ [n], ul', vu', vp', by omega, by omega, by go_num, rfl, hz1, hz2, HCn, HZ5, ⟨HS3.out.cleared _⟩, HFS, ⟨HK3.out.setRow _ _ (fun h => by have := HS3.out.lB; omega)⟩⟩
            | false =>
              have hb0 := HL0.out rfl
              have HS4 := Aside0.mk (show MadeSt w0 (wc.setCell ⟨T, k, none⟩ (.int .u16 (n : Int))) T M B (wh ++ [n]) ul' ul' ul' vu' vp' zeros128 from by rw [← hb0]; exact HS3.out)
              have HZ4 := Aside0.mk (show (0 : Int) ≤ (n : Int) → (n : Int).toNat < ul'.length ∧ ul'.getD (n : Int).toNat [] = zeros128 from fun _ => by rw [Int.toNat_natCast, ← hb0]; exact hnu.out)
              clear hb0
              go_wp2
              go_roundg (gk - 1)
              case measure => omega
              case rel => exact ⟨k + 1, (n : Int), wh ++ [n], ul', vu', vp', by omega, by omega, by go_num, rfl, by omega, by omega, HCn, HZ4, HS4, HF3, HK3⟩
    · have hke : k = 8704 := by omega
      have hge : ¬ (k : Int) < 8704 := by omega
      have hdone := hSt.out.done hC.out (by simpa using hke) (by
        intro b hb j
        obtain ⟨i, hi, rfl⟩ := List.mem_map.1 hb
        exact h16 i (by have := List.mem_range.1 hi; omega) j)
      rw [hke] at hdone hS
      have HDn := Aside0.mk hdone
      clear hke hdone hSt hC hZ
      go_wp2
      go_ret
      obtain ⟨g, c, g', c', ht⟩ := HDn.out
      exact ⟨T, g, c, g', c', rfl, ht, hS.out, hK.out⟩

end Go.Proofs.Ytajmbafljncjcaa.Stage
