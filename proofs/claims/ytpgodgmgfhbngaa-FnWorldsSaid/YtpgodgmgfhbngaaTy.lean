/- The types of the program that the walks meet, held against the program itself. -/
import Derived.Test.YtpgodgmgfhbngaaMb
import Derived.Test.YtpgodgmgfhbngaaProg
import Derived.KernelRfl
namespace Go.Proofs.Ytpgodgmgfhbngaa
open Go.Eng
def Ty : Tys := [
 (1, ⟨.one, 1, 8, [.nilFunc]⟩),
 (2, ⟨.one, 1, 8, [.int .i64 0]⟩),
 (3, ⟨.one, 1, 8, [.int .i64 0]⟩),
 (4, ⟨.bool, 1, 1, [.bool false]⟩),
 (5, ⟨.one, 1, 1, [.int .u8 0]⟩),
 (6, ⟨.one, 1, 1, [.int .u8 0]⟩),
 (7, ⟨.agg [0, 1, 2, 3], 4, 24, [.int .i64 0, .int .i64 0, .bool false, .int .u8 0]⟩),
 (8, ⟨.agg [0, 1, 2, 3], 4, 24, [.int .i64 0, .int .i64 0, .bool false, .int .u8 0]⟩),
 (9, ⟨.str, 1, 16, [.string ⟨#[]⟩]⟩),
 (10, ⟨.str, 1, 16, [.string ⟨#[]⟩]⟩),
 (11, ⟨.str, 1, 16, [.string ⟨#[]⟩]⟩),
 (12, ⟨.one, 1, 8, [.int .u64 0]⟩),
 (13, ⟨.agg [0, 1], 2, 24, [.string ⟨#[]⟩, .int .u64 0]⟩),
 (14, ⟨.agg [0, 1], 2, 24, [.string ⟨#[]⟩, .int .u64 0]⟩),
 (15, ⟨.ptr, 1, 8, [.pointer none]⟩),
 (16, ⟨.ptr, 1, 8, [.pointer none]⟩),
 (17, ⟨.ptr, 1, 8, [.pointer none]⟩),
 (18, ⟨.agg [0], 1, 8, [.pointer none]⟩),
 (19, ⟨.agg [0], 1, 8, [.pointer none]⟩),
 (20, ⟨.one, 1, 16, [.nilIface]⟩),
 (21, ⟨.one, 1, 4, [.int .i32 0]⟩),
 (22, ⟨.slice 5, 1, 24, [.slice none 0 0]⟩),
 (23, ⟨.one, 1, 8, [.nilFunc]⟩),
 (24, ⟨.slice 3, 1, 24, [.slice none 0 0]⟩),
 (25, ⟨.slice 36, 1, 24, [.slice none 0 0]⟩),
 (27, ⟨.one, 1, 8, [.nilFunc]⟩),
 (28, ⟨.slice 24, 1, 24, [.slice none 0 0]⟩),
 (29, ⟨.slice 4, 1, 24, [.slice none 0 0]⟩),
 (30, ⟨.slice 51, 1, 24, [.slice none 0 0]⟩),
 (31, ⟨.agg [0, 1, 2, 3, 4], 5, 120, [.slice none 0 0, .slice none 0 0, .slice none 0 0, .slice none 0 0, .slice none 0 0]⟩),
 (32, ⟨.agg [0, 1, 2, 3, 4], 5, 120, [.slice none 0 0, .slice none 0 0, .slice none 0 0, .slice none 0 0, .slice none 0 0]⟩),
 (34, ⟨.one, 1, 8, [.nilFunc]⟩),
 (35, ⟨.one, 1, 8, [.nilFunc]⟩),
 (36, ⟨.slice 86, 1, 24, [.slice none 0 0]⟩),
 (38, ⟨.one, 1, 8, [.nilFunc]⟩),
 (39, ⟨.one, 1, 8, [.nilFunc]⟩),
 (41, ⟨.one, 1, 8, [.nilFunc]⟩),
 (43, ⟨.one, 1, 8, [.nilFunc]⟩),
 (45, ⟨.one, 1, 8, [.nilFunc]⟩),
 (47, ⟨.one, 1, 8, [.nilFunc]⟩),
 (48, ⟨.one, 1, 8, [.nilFunc]⟩),
 (49, ⟨.one, 1, 8, [.nilFunc]⟩),
 (50, ⟨.agg [0, 1, 2, 3], 4, 48, [.slice none 0 0, .int .i64 0, .int .i64 0, .int .i64 0]⟩),
 (51, ⟨.agg [0, 1, 2, 3], 4, 48, [.slice none 0 0, .int .i64 0, .int .i64 0, .int .i64 0]⟩),
 (53, ⟨.one, 1, 8, [.nilFunc]⟩),
 (54, ⟨.one, 1, 8, [.nilFunc]⟩),
 (56, ⟨.one, 1, 8, [.nilFunc]⟩),
 (57, ⟨.ptr, 1, 8, [.pointer none]⟩),
 (58, ⟨.one, 1, 8, [.int .u64 0]⟩),
 (59, ⟨.agg [0, 1, 2], 3, 40, [.slice none 0 0, .int .i64 0, .int .u64 0]⟩),
 (60, ⟨.agg [0, 1, 2], 3, 40, [.slice none 0 0, .int .i64 0, .int .u64 0]⟩),
 (61, ⟨.one, 1, 8, [.nilFunc]⟩),
 (62, ⟨.one, 1, 8, [.nilFunc]⟩),
 (63, ⟨.one, 1, 8, [.nilFunc]⟩),
 (64, ⟨.one, 1, 8, [.nilFunc]⟩),
 (65, ⟨.one, 1, 8, [.nilFunc]⟩),
 (66, ⟨.one, 1, 8, [.nilFunc]⟩),
 (67, ⟨.one, 1, 8, [.nilFunc]⟩),
 (68, ⟨.one, 1, 8, [.nilFunc]⟩),
 (69, ⟨.one, 1, 8, [.nilFunc]⟩),
 (70, ⟨.one, 1, 8, [.nilFunc]⟩),
 (71, ⟨.one, 1, 8, [.nilFunc]⟩),
 (72, ⟨.one, 1, 8, [.nilFunc]⟩),
 (73, ⟨.one, 1, 8, [.nilFunc]⟩),
 (74, ⟨.one, 1, 8, [.nilFunc]⟩),
 (75, ⟨.one, 1, 8, [.nilFunc]⟩),
 (76, ⟨.one, 1, 8, [.nilFunc]⟩),
 (77, ⟨.one, 1, 8, [.nilFunc]⟩),
 (78, ⟨.one, 1, 8, [.nilFunc]⟩),
 (79, ⟨.one, 1, 8, [.nilFunc]⟩),
 (80, ⟨.one, 1, 8, [.nilFunc]⟩),
 (81, ⟨.one, 1, 8, [.nilFunc]⟩),
 (82, ⟨.one, 1, 8, [.nilFunc]⟩),
 (83, ⟨.one, 1, 8, [.nilFunc]⟩),
 (84, ⟨.one, 1, 8, [.nilFunc]⟩),
 (85, ⟨.agg [0, 1, 2, 3], 4, 48, [.int .i64 0, .int .i64 0, .int .i64 0, .slice none 0 0]⟩),
 (86, ⟨.agg [0, 1, 2, 3], 4, 48, [.int .i64 0, .int .i64 0, .int .i64 0, .slice none 0 0]⟩),
 (87, ⟨.one, 1, 8, [.nilFunc]⟩),
 (88, ⟨.one, 1, 8, [.nilFunc]⟩),
 (89, ⟨.one, 1, 8, [.nilFunc]⟩),
 (90, ⟨.one, 1, 8, [.nilFunc]⟩),
 (91, ⟨.one, 1, 8, [.nilFunc]⟩),
 (92, ⟨.one, 1, 8, [.nilFunc]⟩),
 (93, ⟨.one, 1, 8, [.nilFunc]⟩),
 (94, ⟨.one, 1, 8, [.nilFunc]⟩),
 (95, ⟨.one, 1, 8, [.nilFunc]⟩),
 (96, ⟨.one, 1, 8, [.nilFunc]⟩),
 (97, ⟨.one, 1, 8, [.nilFunc]⟩),
 (98, ⟨.ptr, 1, 8, [.pointer none]⟩),
 (99, ⟨.ptr, 1, 8, [.pointer none]⟩),
 (100, ⟨.one, 1, 8, [.nilFunc]⟩),
 (101, ⟨.one, 1, 8, [.nilFunc]⟩),
 (102, ⟨.one, 1, 8, [.nilFunc]⟩),
 (103, ⟨.one, 1, 8, [.nilFunc]⟩),
 (104, ⟨.one, 1, 8, [.nilFunc]⟩),
 (105, ⟨.one, 1, 8, [.nilFunc]⟩),
 (106, ⟨.one, 1, 8, [.nilFunc]⟩),
 (107, ⟨.one, 1, 8, [.nilFunc]⟩),
 (108, ⟨.one, 1, 8, [.nilFunc]⟩),
 (109, ⟨.one, 1, 8, [.nilFunc]⟩),
 (110, ⟨.one, 1, 8, [.nilFunc]⟩),
 (111, ⟨.one, 1, 8, [.nilFunc]⟩),
 (112, ⟨.one, 1, 8, [.nilFunc]⟩),
 (113, ⟨.one, 1, 8, [.nilFunc]⟩),
 (114, ⟨.one, 1, 8, [.int .u64 0]⟩),
 (115, ⟨.one, 1, 8, [.nilFunc]⟩),
 (116, ⟨.agg [0, 1, 2, 3], 4, 40, [.pointer none, .pointer none, .pointer none, .string ⟨#[]⟩]⟩),
 (117, ⟨.agg [0, 1, 2, 3], 4, 40, [.pointer none, .pointer none, .pointer none, .string ⟨#[]⟩]⟩),
 (121, ⟨.one, 1, 4, [.int .u32 0]⟩),
 (122, ⟨.one, 1, 1, [.int .u8 0]⟩),
 (123, ⟨.one, 1, 1, [.int .u8 0]⟩),
 (124, ⟨.one, 1, 8, [.nilFunc]⟩),
 (125, ⟨.ptr, 1, 8, [.pointer none]⟩),
 (126, ⟨.one, 1, 4, [.int .i32 0]⟩),
 (127, ⟨.one, 1, 4, [.int .i32 0]⟩),
 (128, ⟨.agg [0, 1, 2, 3, 4, 5, 6, 7, 8, 9, 10], 11, 48, [.int .u64 0, .int .u64 0, .int .u32 0, .int .u8 0, .int .u8 0, .int .u8 0, .int .u8 0, .nilFunc, .pointer none, .int .i32 0, .int .i32 0]⟩),
 (129, ⟨.agg [0, 1, 2, 3, 4, 5, 6, 7, 8, 9, 10], 11, 48, [.int .u64 0, .int .u64 0, .int .u32 0, .int .u8 0, .int .u8 0, .int .u8 0, .int .u8 0, .nilFunc, .pointer none, .int .i32 0, .int .i32 0]⟩),
 (130, ⟨.one, 1, 8, [.pointer none]⟩)]
theorem tys : Ty.ok Try.prog := Tys.okB_sound (by kernel_rfl)
theorem mixed : Try.prog.follows .mixedOrders = true := by kernel_rfl
section
variable {c : Ctx} {s : St} {Q : Exit → St → Prop} {R : St → Prop} {ops : Array Oper} {rest : List Oper} {o : Oper} {t : Nat} {d : D} {n m : Int}
theorem ev (k : WO Try.prog c ops rest ⟨(t, d) :: s.fr, s.M⟩ Q) (hg : o.guard = none := by exact rfl) (hd : o.dst = some t := by exact rfl) (ht : t < c.n := by exact lt_of rfl) (he : evF Ty s o.op = some d := by exact rfl) : WO Try.prog c ops (o :: rest) s Q :=
 WO_evF tys hg hd ht he k
theorem evQ (k : QL Try.prog c ops rest ⟨(t, d) :: s.fr, s.M⟩ R) (hg : o.guard = none := by exact rfl) (hd : o.dst = some t := by exact rfl) (ht : t < c.n := by exact lt_of rfl) (he : evF Ty s o.op = some d := by exact rfl) : QL Try.prog c ops (o :: rest) s R :=
 QL_ev tys hg hd ht he k
theorem evI (k : WO Try.prog c ops rest ⟨(t, .t (.int n)) :: s.fr, s.M⟩ Q) (hg : o.guard = none := by exact rfl) (hd : o.dst = some t := by exact rfl) (ht : t < c.n := by exact lt_of rfl) (he : evV Ty s o.op = some (.t (.int (IntKind.i64.wrap n))) := by exact rfl)
  (h1 : -9223372036854775808 ≤ n := by omega) (h2 : n ≤ 9223372036854775807 := by omega) : WO Try.prog c ops (o :: rest) s Q := WO_int tys hg hd ht he (wrap_id h1 h2) k
theorem evE (k : WO Try.prog c ops rest ⟨(t, .t (.int m)) :: s.fr, s.M⟩ Q) (hg : o.guard = none := by exact rfl) (hd : o.dst = some t := by exact rfl) (ht : t < c.n := by exact lt_of rfl) (he : evF Ty s o.op = some (.t (.int n)) := by exact rfl)
  (h1 : n = m := by first | exact lenM | exact rfl) : WO Try.prog c ops (o :: rest) s Q := WO_evE tys hg hd ht he h1 k
theorem evEQ (k : QL Try.prog c ops rest ⟨(t, .t (.int m)) :: s.fr, s.M⟩ R) (hg : o.guard = none := by exact rfl) (hd : o.dst = some t := by exact rfl) (ht : t < c.n := by exact lt_of rfl) (he : evF Ty s o.op = some (.t (.int n)) := by exact rfl)
  (h1 : n = m := by first | exact lenM | exact rfl) : QL Try.prog c ops (o :: rest) s R := QL_evE tys hg hd ht he h1 k
def evStep (n : Nat) (s : St) (o : Oper) : Option St := match o.guard, o.dst with
  | none, some t => match Nat.blt t n, evF Ty s o.op with
    | true, some d => some ⟨(t, d) :: s.fr, s.M⟩
    | _, _ => none
  | _, _ => none
theorem eZ {s' : St} (h : evStep c.n s o = some s') (k : WO Try.prog c ops rest s' Q) : WO Try.prog c ops (o :: rest) s Q := by
  unfold evStep at h
  split at h
  · rename_i hg hd
    split at h
    · rename_i ht he
      cases h
      exact WO_evF tys hg hd (Nat.le_of_ble_eq_true ht) he k
    · cases h
  · cases h
def gStep (ops : Array Oper) (n : Nat) (s : St) (o : Oper) : Option Bool := match o.guard, o.dst with
  | some (j, w), some t => match Nat.blt t n, (ops[j]?).bind (·.dst) with
    | true, some a => match Go.Eng.look s.fr a with
      | .t (.v (.bool b)) => some (b == w)
      | .tup [] => some false
      | _ => none
    | _, _ => none
  | _, _ => none
theorem gStep_of {b : Bool} (h : gStep ops c.n s o = some b) : ∃ j w a t, o.guard = some (j, w) ∧ o.dst = some t ∧ t < c.n ∧ (ops[j]?).bind (·.dst) = some a ∧ ((∃ b', Go.Eng.look s.fr a = .t (.bool b') ∧ b = (b' == w)) ∨ (Go.Eng.look s.fr a = .tup [] ∧ b = false)) := by
  unfold gStep at h
  split at h
  · rename_i j w t hg hd
    split at h
    · rename_i a ht ha
      refine ⟨j, w, a, t, hg, hd, Nat.le_of_ble_eq_true ht, ha, ?_⟩
      split at h
      · rename_i b' hl; cases h; exact .inl ⟨b', hl, rfl⟩
      · rename_i hl; cases h; exact .inr ⟨hl, rfl⟩
      · cases h
    · cases h
  · cases h
theorem gY (h : gStep ops c.n s o = some true) (k : WO Try.prog c ops ({ o with guard := none } :: rest) s Q) : WO Try.prog c ops (o :: rest) s Q := by
  obtain ⟨j, w, a, t, hg, hd, ht, ha, ⟨b', hl, hb⟩ | ⟨_, hb⟩⟩ := gStep_of h
  · have : b' = w := by simpa using hb.symm
    subst this
    exact WO_guardY hg ha hl hd ht k
  · cases hb
def gNx (o : Oper) (s : St) : St := match o.dst with
  | some t => ⟨(t, .tup []) :: s.fr, s.M⟩
  | none => s
theorem gN {s' : St} (h : gStep ops c.n s o = some false) (hs : gNx o s = s') (k : WO Try.prog c ops rest s' Q) : WO Try.prog c ops (o :: rest) s Q := by
  obtain ⟨j, w, a, t, hg, hd, ht, ha, ⟨b', hl, hb⟩ | ⟨hl, _⟩⟩ := gStep_of h
  · have hb' : b' = !w := by clear hl hg; cases b' <;> cases w <;> first | rfl | cases hb
    unfold gNx at hs
    rw [hd] at hs
    subst hs
    exact WO_guardN hg ha hl hb' hd ht k
  · unfold gNx at hs
    rw [hd] at hs
    subst hs
    exact WO_guardS hg ha hl hd ht k
def gMs (ops : Array Oper) (n : Nat) (s : St) (o : Oper) : Option St := match gStep ops n s o with
  | some false => some (gNx o s)
  | _ => none
theorem gM {s' : St} (h : gMs ops c.n s o = some s') (k : WO Try.prog c ops rest s' Q) : WO Try.prog c ops (o :: rest) s Q := by
  unfold gMs at h
  split at h
  · rename_i hg; cases h; exact gN hg rfl k
  · cases h
def stStep (s : St) (o : Oper) : Option St := match o.guard, o.dst, o.op with
  | none, none, .store ty x y => match tyOf Ty ty, opd s.fr x, boxD (opd s.fr y) with
    | some ti, .ref id 0 off, some ds => match lookM s.M id with
      | some (.box cells) => match Nat.beq ds.length ti.size, Nat.ble (off + ds.length) cells.length with
        | true, true => some ⟨eat y (opd s.fr y) s.fr, (id, .box (splice cells off ds)) :: s.M⟩
        | _, _ => none
      | _ => none
    | _, _, _ => none
  | _, _, _ => none
theorem sT {s' : St} (h : stStep s o = some s') (k : WO Try.prog c ops rest s' Q) : WO Try.prog c ops (o :: rest) s Q := by
  unfold stStep at h
  split at h
  · rename_i ty x y hg hd ho
    split at h
    · rename_i ti id off ds h1 hx hy
      split at h
      · rename_i cells hM
        split at h
        · rename_i hl hle
          cases h
          exact WO_store tys hg hd ho h1 hx hM hy (Nat.eq_of_beq_eq_true hl) (Nat.le_of_ble_eq_true hle) k
        · cases h
      · cases h
    · cases h
  · cases h
theorem nZ {l : List Oper} {s' : St} (h : forceS s = some s') (k : WO Try.prog c ops l s' Q) : WO Try.prog c ops l s Q := WO_norm h k
theorem kZ {l : List Oper} (ks : List Nat) {s' : St} (h : forceS ⟨keepF s.fr ks, s.M⟩ = some s') (k : WO Try.prog c ops l s' Q) : WO Try.prog c ops l s Q := WO_keep ks h k
theorem nY {x : Code} {s' : St} (h : forceS s = some s') (k : W Try.prog c x s' Q) : W Try.prog c x s Q := W_norm h k
theorem kY {x : Code} (ks : List Nat) {s' : St} (h : forceS ⟨keepF s.fr ks, s.M⟩ = some s') (k : W Try.prog c x s' Q) : W Try.prog c x s Q := W_keep ks h k
theorem eR {fn : Func} {ds ds' : List Go.Eng.D} {ys : List (Nat ⊕ Nat)} (hd : ds' = ds) (h : retF Ty s fn.results.toList = some (ds', ys) := by exact rfl) (hn : ys.Nodup := by decide) (hc : D.closed.closedL ds' = true := by exact rfl) : Go.Eng.Ends Ty fn ds .ret s := Go.Eng.Ends_of (.inr rfl) (ret_okF h) hn hc hd
theorem tN {y : Code} (h : W Try.prog c y s Q) : thenQ Try.prog c y Q .normal s := h
theorem tR {y : Code} (h : Q .ret s) : thenQ Try.prog c y Q .ret s := h
theorem tE {y : Code} {id : Nat} (h : Q (.exit id) s) : thenQ Try.prog c y Q (.exit id) s := h
theorem bN {id : Nat} (h : Q .normal s) : inBlk id Q .normal s := h
theorem bR {id : Nat} (h : Q .ret s) : inBlk id Q .ret s := h
theorem oN (h : Q .normal s) : WO Try.prog c ops [] s Q := WO_nil h
theorem sQ {x y : Code} (h : W Try.prog c x s (thenQ Try.prog c y Q)) : W Try.prog c (.seq x y) s Q := W_seq h
theorem rG {id : Nat} {l : List Oper} (h : WO Try.prog c l.toArray l s Q) : W Try.prog c (.region id l.toArray false) s Q := W_region h
theorem rT (h : Q .ret s) : W Try.prog c .ret s Q := W_ret h
def evRun (n : Nat) : Nat → St → List Oper → Option (St × List Oper)
  | 0, s, l => some (s, l)
  | _ + 1, _, [] => none
  | k + 1, s, o :: l => match evStep n s o with
    | some s' => evRun n k s' l
    | none => none
theorem eK {s' : St} {l' : List Oper} : ∀ (n : Nat) {s : St} {l : List Oper}, evRun c.n n s l = some (s', l') → WO Try.prog c ops l' s' Q → WO Try.prog c ops l s Q
  | 0, s, l, h, k => by cases h; exact k
  | n + 1, s, [], h, k => by cases h
  | n + 1, s, o :: l, h, k => by
    rw [evRun] at h
    split at h
    · rename_i he; exact eZ he (eK n h k)
    · cases h
theorem lQ {α : Type} {S : α → St} {inv : α → Prop} {μ : α → Nat} {x : α} (x' : α) (h3 : inv x') (h4 : μ x' < μ x) (h1 : Eng.Sub (S x').fr s.fr := by (try dsimp only); repeat (first | exact Sub.nil' | refine Sub.cons' rfl ?_)) (h2 : SubM (S x').M s.M := by (try dsimp only); repeat (first | exact SubM.nil' | refine SubM.cons' rfl ?_)) : loopQ c S inv μ x Q .normal s := loopQ_n x' h1 h2 h3 h4
theorem lK {α : Type} {body : Code} (ks km : List Nat) (fr : α → List (Nat × Go.Eng.D)) (M : α → List (Nat × Blk)) (inv : α → Prop) (μ : α → Nat) (x0 : α) (h3 : inv x0)
 (round : ∀ x, inv x → W Try.prog c body ⟨fr x ++ keepF s.fr ks, M x ++ keepM s.M km⟩ (loopQ c (fun x => ⟨fr x ++ keepF s.fr ks, M x ++ keepM s.M km⟩) inv μ x Q))
 (h1 : Eng.Sub (fr x0 ++ keepF s.fr ks) s.fr := by repeat (first | exact Sub.nil' | refine Sub.cons' rfl ?_)) (h2 : SubM (M x0 ++ keepM s.M km) s.M := by repeat (first | exact SubM.nil' | refine SubM.cons' rfl ?_)) : W Try.prog c (.loop body) s Q := W_loopK ks km fr M inv μ x0 h1 h2 h3 round
theorem Z {α : Type _} {a : α} : a = a := rfl
end
end Go.Proofs.Ytpgodgmgfhbngaa
