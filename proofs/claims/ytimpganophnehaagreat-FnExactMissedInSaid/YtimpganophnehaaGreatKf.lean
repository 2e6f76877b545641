/- Walks and laws of the claim. -/
import Derived.Test.YtimpganophnehaaGreatPc
import Derived.Test.YtimpganophnehaaGreatFa
import Derived.Shelf.Bits.Mul64
import Derived.Lib.BitFns
import Derived.Lib.Walk
import Derived.Test.YtimpganophnehaaGreatMe
set_option linter.unusedVariables false
set_option linter.unusedSimpArgs false
set_option maxRecDepth 100000
set_option maxHeartbeats 4000000
namespace Go.Proofs.YtimpganophnehaaGreat
open Go.Eng
open Go.Eng
theorem hasNI_fun (op : Int) : Fun Tryz.prog 233 [.t (.int op)] (tupD [.t (.bool (hasNB op))]) := by
 refine Fun.begin tys Tryz.func233 Z Z (N := 14) [(0, .t (.int op))] Z Z (fun w0 G F0 => ?_)
 refine sQ (rG (eZ Z (oN (tN (sQ (sQ (rG (eZ Z (oN (tN (W_block (sQ (sQ (rG (eK 2 Z ?_)))))))))))))))
 refine oN (tN ?_)
 refine W_joinN (α := Bool) [2] [] (fun x => [(4, .t (.bool x))]) (fun x => []) (fun x => x = hasNB op) ?_ (fun b hx => ?_)
 ·
  refine W_cond Z (fun h1 => ?_) (fun h1 => ?_)
  ·
   try simp only [HS] at h1
   refine W_skip ?_
   refine joinQ_n _ (by (try dsimp only); repeat (first | exact Sub.nil' | refine Sub.cons' rfl ?_)) (by (try dsimp only); repeat (first | exact SubM.nil' | refine SubM.cons' rfl ?_)) ?_
   try dsimp only
   grind [hasNB]
  try simp only [HS] at h1
  refine sQ (rG (eK 2 Z (oN (tN ?_))))
  refine W_cond Z (fun h2 => ?_) (fun h2 => ?_)
  ·
   try simp only [HS] at h2
   refine W_skip ?_
   refine joinQ_n _ (by (try dsimp only); repeat (first | exact Sub.nil' | refine Sub.cons' rfl ?_)) (by (try dsimp only); repeat (first | exact SubM.nil' | refine SubM.cons' rfl ?_)) ?_
   try dsimp only
   grind [hasNB]
  try simp only [HS] at h2
  refine sQ (rG (eK 2 Z (oN (tN ?_))))
  refine W_cond Z (fun h3 => ?_) (fun h3 => ?_)
  ·
   try simp only [HS] at h3
   refine W_skip ?_
   refine joinQ_n _ (by (try dsimp only); repeat (first | exact Sub.nil' | refine Sub.cons' rfl ?_)) (by (try dsimp only); repeat (first | exact SubM.nil' | refine SubM.cons' rfl ?_)) ?_
   try dsimp only
   grind [hasNB]
  try simp only [HS] at h3
  refine sQ (kY [2,3,4] Z (rG (eK 2 Z (oN (tN ?_)))))
  refine W_cond Z (fun h4 => ?_) (fun h4 => ?_)
  ·
   try simp only [HS] at h4
   refine W_skip ?_
   refine joinQ_n _ (by (try dsimp only); repeat (first | exact Sub.nil' | refine Sub.cons' rfl ?_)) (by (try dsimp only); repeat (first | exact SubM.nil' | refine SubM.cons' rfl ?_)) ?_
   try dsimp only
   grind [hasNB]
  try simp only [HS] at h4
  refine sQ (rG (eK 2 Z (oN (tN ?_))))
  refine W_cond Z (fun h5 => ?_) (fun h5 => ?_)
  ·
   try simp only [HS] at h5
   refine W_skip ?_
   refine joinQ_n _ (by (try dsimp only); repeat (first | exact Sub.nil' | refine Sub.cons' rfl ?_)) (by (try dsimp only); repeat (first | exact SubM.nil' | refine SubM.cons' rfl ?_)) ?_
   try dsimp only
   grind [hasNB]
  try simp only [HS] at h5
  refine sQ (rG (eK 2 Z (oN (tN ?_))))
  refine W_cond Z (fun h6 => ?_) (fun h6 => ?_)
  ·
   try simp only [HS] at h6
   refine W_skip ?_
   refine joinQ_n _ (by (try dsimp only); repeat (first | exact Sub.nil' | refine Sub.cons' rfl ?_)) (by (try dsimp only); repeat (first | exact SubM.nil' | refine SubM.cons' rfl ?_)) ?_
   try dsimp only
   grind [hasNB]
  try simp only [HS] at h6
  refine sQ (rG (eK 2 Z (oN (tN ?_))))
  refine W_cond Z (fun h7 => ?_) (fun h7 => ?_)
  ·
   try simp only [HS] at h7
   refine W_skip ?_
   refine joinQ_n _ (by (try dsimp only); repeat (first | exact Sub.nil' | refine Sub.cons' rfl ?_)) (by (try dsimp only); repeat (first | exact SubM.nil' | refine SubM.cons' rfl ?_)) ?_
   try dsimp only
   grind [hasNB]
  try simp only [HS] at h7
  refine sQ (kY [2,3,4] Z (rG (eK 2 Z (oN (tN ?_)))))
  refine W_cond Z (fun h8 => ?_) (fun h8 => ?_)
  ·
   try simp only [HS] at h8
   refine W_skip ?_
   refine joinQ_n _ (by (try dsimp only); repeat (first | exact Sub.nil' | refine Sub.cons' rfl ?_)) (by (try dsimp only); repeat (first | exact SubM.nil' | refine SubM.cons' rfl ?_)) ?_
   try dsimp only
   grind [hasNB]
  try simp only [HS] at h8
  refine rG (eK 2 Z (oN ?_))
  refine joinQ_n _ (by (try dsimp only); repeat (first | exact Sub.nil' | refine Sub.cons' rfl ?_)) (by (try dsimp only); repeat (first | exact SubM.nil' | refine SubM.cons' rfl ?_)) ?_
  try dsimp only
  grind [hasNB]
 have hb := hx
 refine tN ?_
 refine W_cond Z (fun h1 => ?_) (fun h1 => ?_)
 ·
  try simp only [HS] at h1
  refine sQ (kY [2] Z (rG (eZ Z (oN (tN (rT (bR (tR (eR ?_)))))))))
  ·exact retB (by simp_all <;> omega)
 try simp only [HS] at h1
 refine W_skip (bN (tN (sQ (kY [2] Z (rG (eZ Z (oN (tN (rT (eR ?_))))))))))
 ·exact retB (by simp_all <;> omega)
theorem mayRaise_fun (op : Int) : Fun Tryz.prog 146 [.t (.int op)] (tupD [.t (.bool (raisesB op))]) := by
 refine Fun.begin tys Tryz.func146 Z Z (N := 11) [(0, .t (.int op))] Z Z (fun w0 G F0 => ?_)
 refine sQ (rG (eZ Z (oN (tN (sQ (sQ (rG (eZ Z (oN (tN (W_block (sQ (sQ (rG (eK 2 Z ?_)))))))))))))))
 refine oN (tN ?_)
 refine W_joinN (α := Bool) [2] [] (fun x => [(4, .t (.bool x))]) (fun x => []) (fun x => x = raisesB op) ?_ (fun b hx => ?_)
 ·
  refine W_cond Z (fun h1 => ?_) (fun h1 => ?_)
  ·
   try simp only [HS] at h1
   refine W_skip ?_
   refine joinQ_n _ (by (try dsimp only); repeat (first | exact Sub.nil' | refine Sub.cons' rfl ?_)) (by (try dsimp only); repeat (first | exact SubM.nil' | refine SubM.cons' rfl ?_)) ?_
   try dsimp only
   grind [raisesB]
  try simp only [HS] at h1
  refine sQ (rG (eK 2 Z (oN (tN ?_))))
  refine W_cond Z (fun h2 => ?_) (fun h2 => ?_)
  ·
   try simp only [HS] at h2
   refine W_skip ?_
   refine joinQ_n _ (by (try dsimp only); repeat (first | exact Sub.nil' | refine Sub.cons' rfl ?_)) (by (try dsimp only); repeat (first | exact SubM.nil' | refine SubM.cons' rfl ?_)) ?_
   try dsimp only
   grind [raisesB]
  try simp only [HS] at h2
  refine sQ (rG (eK 2 Z (oN (tN ?_))))
  refine W_cond Z (fun h3 => ?_) (fun h3 => ?_)
  ·
   try simp only [HS] at h3
   refine W_skip ?_
   refine joinQ_n _ (by (try dsimp only); repeat (first | exact Sub.nil' | refine Sub.cons' rfl ?_)) (by (try dsimp only); repeat (first | exact SubM.nil' | refine SubM.cons' rfl ?_)) ?_
   try dsimp only
   grind [raisesB]
  try simp only [HS] at h3
  refine sQ (kY [2,3,4] Z (rG (eK 2 Z (oN (tN ?_)))))
  refine W_cond Z (fun h4 => ?_) (fun h4 => ?_)
  ·
   try simp only [HS] at h4
   refine W_skip ?_
   refine joinQ_n _ (by (try dsimp only); repeat (first | exact Sub.nil' | refine Sub.cons' rfl ?_)) (by (try dsimp only); repeat (first | exact SubM.nil' | refine SubM.cons' rfl ?_)) ?_
   try dsimp only
   grind [raisesB]
  try simp only [HS] at h4
  refine sQ (rG (eK 2 Z (oN (tN ?_))))
  refine W_cond Z (fun h5 => ?_) (fun h5 => ?_)
  ·
   try simp only [HS] at h5
   refine W_skip ?_
   refine joinQ_n _ (by (try dsimp only); repeat (first | exact Sub.nil' | refine Sub.cons' rfl ?_)) (by (try dsimp only); repeat (first | exact SubM.nil' | refine SubM.cons' rfl ?_)) ?_
   try dsimp only
   grind [raisesB]
  try simp only [HS] at h5
  refine rG (eK 2 Z (oN ?_))
  refine joinQ_n _ (by (try dsimp only); repeat (first | exact Sub.nil' | refine Sub.cons' rfl ?_)) (by (try dsimp only); repeat (first | exact SubM.nil' | refine SubM.cons' rfl ?_)) ?_
  try dsimp only
  grind [raisesB]
 have hb := hx
 refine tN ?_
 refine W_cond Z (fun h1 => ?_) (fun h1 => ?_)
 ·
  try simp only [HS] at h1
  refine sQ (kY [2] Z (rG (eZ Z (oN (tN (rT (bR (tR (eR ?_)))))))))
  ·exact retB (by simp_all <;> omega)
 try simp only [HS] at h1
 refine W_skip (bN (tN (sQ (kY [2] Z (rG (eZ Z (oN (tN (rT (eR ?_))))))))))
 ·exact retB (by simp_all <;> omega)
theorem isIns_fun (i : Ins) : Fun Tryz.prog 219 [.t i.tt] (tupD [.t (.bool (insB i))]) := by
 refine Fun.begin tys Tryz.func219 Z Z (N := 32) [(0, .t i.tt)] Z Z (fun w0 G F0 => ?_)
 refine sQ (rG (WO_box Z Z (lt_of Z) Z Z (nZ Z (eZ Z (oN (tN (sQ (W_block (sQ (rG (eK 2 Z (callB ?_))))))))))))
 refine ⟨_, within_fun _ _ _, rfl, ?_⟩
 refine eK 2 Z (oN (tN ?_))
 refine W_cond Z (fun h1 => ?_) (fun h1 => ?_)
 ·
  try simp only [HS] at h1
  refine sQ (kY [1,2] Z (rG (eZ Z (oN (tN (rT (bR (tR (eR ?_)))))))))
  ·exact retB (by grind [insB, hasNB])
 try simp only [HS] at h1
 refine sQ (kY [1,2] Z (rG (eK 4 Z (oN (tN ?_)))))
 refine W_cond Z (fun h2 => ?_) (fun h2 => ?_)
 ·
  try simp only [HS] at h2
  refine sQ (rG (eK 2 Z (callB ?_)))
  refine ⟨_, isSmall_fun _, rfl, ?_⟩
  refine eZ Z (oN (tN (rT (bR (tR (eR ?_))))))
  ·exact retB (by grind [insB, hasNB])
 try simp only [HS] at h2
 refine sQ (rG (eK 4 Z (oN (tN ?_))))
 refine W_cond Z (fun h3 => ?_) (fun h3 => ?_)
 ·
  try simp only [HS] at h3
  refine sQ (kY [1,2] Z (rG (eK 2 Z (callB ?_))))
  refine ⟨_, isReckoned_fun _, rfl, ?_⟩
  refine eZ Z (oN (tN (rT (bR (tR (eR ?_))))))
  ·exact retB (by grind [insB, hasNB])
 try simp only [HS] at h3
 refine sQ (kY [1,2] Z (rG (eK 2 Z (callB ?_))))
 refine ⟨_, hasNI_fun _, rfl, ?_⟩
 refine eZ Z (oN (tN ?_))
 refine W_cond Z (fun h4 => ?_) (fun h4 => ?_)
 ·
  try simp only [HS] at h4
  refine sQ (rG (eK 2 Z (callB ?_)))
  refine ⟨_, within_fun _ _ _, rfl, ?_⟩
  refine eZ Z (oN (tN (rT (bR (tR (eR ?_))))))
  ·exact retB (by grind [insB, hasNB])
 try simp only [HS] at h4
 refine W_skip (bN (tN (sQ (rG (eK 4 Z (oN (tN (rT (eR ?_)))))))))
 ·exact retB (by grind [insB, hasNB])
theorem isSizedCode1_fun (i : Ins) : Fun Tryz.prog 218 [.t i.tt] (tupD [.t (.bool (!insB i))]) := by
 refine Fun.begin tys Tryz.func218 Z Z (N := 6) [(0, .t i.tt)] Z Z (fun w0 G F0 => ?_)
 refine sQ (rG (WO_box Z Z (lt_of Z) Z Z (nZ Z (eZ Z (oN (tN (sQ (rG ?_))))))))
 first | (refine ev ?_; try refine WO_le (Le.freeze (u := 3) rfl) ?_) | refine WO_loadMove tys rfl rfl (lt_of rfl) rfl rfl rfl rfl rfl rfl ?_
 refine nZ Z (callB ?_)
 refine ⟨_, isIns_fun _, rfl, ?_⟩
 refine eK 2 Z (oN (tN (rT (eR ?_))))
 ·first | rfl | (simp_all; done)
theorem idxIns_fun (l : List Ins) (p : Ins → Bool) (f : Nat) (caps : List D) (hcaps : caps.all D.imm = true) (hl : l.length ≤ 9223372036854775807) (hf : ∀ x, x ∈ l → Fun Tryz.prog f (.t x.tt :: caps) (.t (.bool (p x)))) : Fun Tryz.prog 220 [.t (T.Inss l), .clo f caps] (tupD [.t (.int (idxGo p l 0))]) := by
 refine Fun.begin tys Tryz.func220 Z Z (N := 19) [(0, .t (T.Inss l)), (1, .clo f caps)] Z Z (fun w0 G F0 => ?_)
 refine sQ (rG (eZ Z (oN (tN (sQ (sQ (rG (eZ Z (evE ?_)))))))))
 refine eZ Z (oN (tN (W_block ?_)))
 refine lK (α := Int) [0, 1, 7] [] (fun x => [(8, .t (.int x))]) (fun x => []) (fun x => 0 ≤ x ∧ x ≤ l.length ∧ idxGo p l 0 = idxGo p (l.drop x.toNat) x) (fun x => Int.toNat (l.length - x)) 0 ?_ (fun k hx => ?_)
 ·exact ⟨by omega, by omega, rfl⟩
 obtain ⟨hk0, hk1, hk2⟩ := hx
 refine nY Z (sQ (rG (eZ Z (oN (tN (sQ ?_))))))
 refine W_cond Z (fun h1 => ?_) (fun h1 => ?_)
 ·
  try simp only [HS] at h1
  refine W_skip (tN (sQ (W_block (sQ (rG (eK 2 Z (oN (tN (sQ (rG (WO_moveClo tys Z Z (lt_of Z) Z Z (by assumption) ?_)))))))))))
  refine eK 2 Z ?_
  first | refine WO_idxT tys rfl rfl (lt_of rfl) rfl rfl rfl rfl rfl rfl rfl (by omega) _ (getT _ _ (by omega) (by omega)) ?_ | refine WO_idxS tys rfl rfl (lt_of rfl) rfl rfl rfl rfl rfl rfl rfl rfl (by omega) (by omega) ?_
  first | (refine ev ?_; try refine WO_le (Le.freeze (u := 15) rfl) ?_) | refine WO_loadL tys rfl rfl (lt_of rfl) rfl rfl rfl rfl (getT _ _ (by omega) (by omega)) rfl ?_ | refine WO_loadL tys rfl rfl (lt_of rfl) rfl rfl rfl rfl (getT0 _ _ (by omega) (by omega)) rfl ?_
  refine nZ Z ?_
  refine WO_call Z Z (lt_of Z) Z Z (by repeat (first | exact ResL.done | exact ResL.imms (by first | rfl | assumption) | refine ResL.t ?_ | refine ResL.own ?_ | refine ResL.slA Z (by first | rfl | (simp; done) | (simp; omega)) ?_ | refine ResL.sl Z (by first | omega | (simp; done) | (simp; omega)) ?_ | refine ResL.rp ?_ | refine ResL.clo ?_ ?_ | refine ResL.aggT ?_ ?_ | refine ResL.ref Z ?_ ?_ | refine ResL.nil' ?_ | refine ResL.nil 1 ?_)) (hf _ (List.getElem_mem _)) Z ?_
  refine kZ [0,1,5,7,8,9,10,11,12,13,14,15,16] Z (oN (tN ?_))
  refine W_cond Z (fun h2 => ?_) (fun h2 => ?_)
  ·
   try simp only [HS] at h2
   refine sQ (rG (eK 2 Z (oN (tN (rT (bR (tR (loopQ_r (bR (tR (eR ?_)))))))))))
   ·first | (rw [hk2, idx_at hk0 h1]; simp [h2]; done) | (rw [hk2, drop_end h1]; rfl)
  try simp only [HS] at h2
  refine W_skip (bN (tN (rG (evI ?_))))
  refine eZ Z (oN ?_)
  refine lQ _ ?_ ?_
  ·try dsimp only
   refine ⟨by omega, by omega, ?_⟩; rw [hk2, idx_at hk0 h1]; simp [h2]
  ·(show Int.toNat _ < Int.toNat _); omega
 try simp only [HS] at h1
 refine W_exit (tE (loopQ_e (inBlk_y (tN (sQ (rG (eZ Z (oN (tN (rT (eR ?_)))))))))))
 ·first | (rw [hk2, idx_at hk0 h1]; simp [h2]; done) | (rw [hk2, drop_end h1]; rfl)
theorem hasIns_fun (l : List Ins) (p : Ins → Bool) (f : Nat) (caps : List D) (hcaps : caps.all D.imm = true) (hl : l.length ≤ 9223372036854775807) (hf : ∀ x, x ∈ l → Fun Tryz.prog f (.t x.tt :: caps) (.t (.bool (p x)))) : Fun Tryz.prog 190 [.t (T.Inss l), .clo f caps] (tupD [.t (.bool (l.any p))]) := by
 refine Fun.begin tys Tryz.func190 Z Z (N := 9) [(0, .t (T.Inss l)), (1, .clo f caps)] Z Z (fun w0 G F0 => ?_)
 refine sQ (rG (eZ Z (oN (tN (sQ (rG (eZ Z (WO_moveClo tys Z Z (lt_of Z) Z Z (by assumption) ?_))))))))
 refine WO_call Z Z (lt_of Z) Z Z (by repeat (first | exact ResL.done | exact ResL.imms (by first | rfl | assumption) | refine ResL.t ?_ | refine ResL.own ?_ | refine ResL.slA Z (by first | rfl | (simp; done) | (simp; omega)) ?_ | refine ResL.sl Z (by first | omega | (simp; done) | (simp; omega)) ?_ | refine ResL.rp ?_ | refine ResL.clo ?_ ?_ | refine ResL.aggT ?_ ?_ | refine ResL.ref Z ?_ ?_ | refine ResL.nil' ?_ | refine ResL.nil 1 ?_)) (idxIns_fun l p f caps hcaps hl hf) Z ?_
 refine eK 2 Z (oN (tN (rT (eR ?_))))
 ·rw [← idxGo_any (Int.le_refl 0)]
theorem idxCode_fun (l : List Code) (p : Code → Bool) (f : Nat) (caps : List D) (hcaps : caps.all D.imm = true) (hl : l.length ≤ 9223372036854775807) (hf : ∀ x, x ∈ l → Fun Tryz.prog f (.t x.tt :: caps) (.t (.bool (p x)))) : Fun Tryz.prog 217 [.t (T.Codes l), .clo f caps] (tupD [.t (.int (idxGo p l 0))]) := by
 refine Fun.begin tys Tryz.func217 Z Z (N := 19) [(0, .t (T.Codes l)), (1, .clo f caps)] Z Z (fun w0 G F0 => ?_)
 refine sQ (rG (eZ Z (oN (tN (sQ (sQ (rG (eZ Z (evE ?_)))))))))
 refine eZ Z (oN (tN (W_block ?_)))
 refine lK (α := Int) [0, 1, 7] [] (fun x => [(8, .t (.int x))]) (fun x => []) (fun x => 0 ≤ x ∧ x ≤ l.length ∧ idxGo p l 0 = idxGo p (l.drop x.toNat) x) (fun x => Int.toNat (l.length - x)) 0 ?_ (fun k hx => ?_)
 ·exact ⟨by omega, by omega, rfl⟩
 obtain ⟨hk0, hk1, hk2⟩ := hx
 refine nY Z (sQ (rG (eZ Z (oN (tN (sQ ?_))))))
 refine W_cond Z (fun h1 => ?_) (fun h1 => ?_)
 ·
  try simp only [HS] at h1
  refine W_skip (tN (sQ (W_block (sQ (rG (eK 2 Z (oN (tN (sQ (rG (WO_moveClo tys Z Z (lt_of Z) Z Z (by assumption) ?_)))))))))))
  refine eK 2 Z ?_
  first | refine WO_idxT tys rfl rfl (lt_of rfl) rfl rfl rfl rfl rfl rfl rfl (by omega) _ (getT _ _ (by omega) (by omega)) ?_ | refine WO_idxS tys rfl rfl (lt_of rfl) rfl rfl rfl rfl rfl rfl rfl rfl (by omega) (by omega) ?_
  first | (refine ev ?_; try refine WO_le (Le.freeze (u := 15) rfl) ?_) | refine WO_loadL tys rfl rfl (lt_of rfl) rfl rfl rfl rfl (getT _ _ (by omega) (by omega)) rfl ?_ | refine WO_loadL tys rfl rfl (lt_of rfl) rfl rfl rfl rfl (getT0 _ _ (by omega) (by omega)) rfl ?_
  refine nZ Z ?_
  refine WO_call Z Z (lt_of Z) Z Z (by repeat (first | exact ResL.done | exact ResL.imms (by first | rfl | assumption) | refine ResL.t ?_ | refine ResL.own ?_ | refine ResL.slA Z (by first | rfl | (simp; done) | (simp; omega)) ?_ | refine ResL.sl Z (by first | omega | (simp; done) | (simp; omega)) ?_ | refine ResL.rp ?_ | refine ResL.clo ?_ ?_ | refine ResL.aggT ?_ ?_ | refine ResL.ref Z ?_ ?_ | refine ResL.nil' ?_ | refine ResL.nil 1 ?_)) (hf _ (List.getElem_mem _)) Z ?_
  refine kZ [0,1,5,7,8,9,10,11,12,13,14,15,16] Z (oN (tN ?_))
  refine W_cond Z (fun h2 => ?_) (fun h2 => ?_)
  ·
   try simp only [HS] at h2
   refine sQ (rG (eK 2 Z (oN (tN (rT (bR (tR (loopQ_r (bR (tR (eR ?_)))))))))))
   ·first | (rw [hk2, idx_at hk0 h1]; simp [h2]; done) | (rw [hk2, drop_end h1]; rfl)
  try simp only [HS] at h2
  refine W_skip (bN (tN (rG (evI ?_))))
  refine eZ Z (oN ?_)
  refine lQ _ ?_ ?_
  ·try dsimp only
   refine ⟨by omega, by omega, ?_⟩; rw [hk2, idx_at hk0 h1]; simp [h2]
  ·(show Int.toNat _ < Int.toNat _); omega
 try simp only [HS] at h1
 refine W_exit (tE (loopQ_e (inBlk_y (tN (sQ (rG (eZ Z (oN (tN (rT (eR ?_)))))))))))
 ·first | (rw [hk2, idx_at hk0 h1]; simp [h2]; done) | (rw [hk2, drop_end h1]; rfl)
theorem hasCode_fun (l : List Code) (p : Code → Bool) (f : Nat) (caps : List D) (hcaps : caps.all D.imm = true) (hl : l.length ≤ 9223372036854775807) (hf : ∀ x, x ∈ l → Fun Tryz.prog f (.t x.tt :: caps) (.t (.bool (p x)))) : Fun Tryz.prog 187 [.t (T.Codes l), .clo f caps] (tupD [.t (.bool (l.any p))]) := by
 refine Fun.begin tys Tryz.func187 Z Z (N := 9) [(0, .t (T.Codes l)), (1, .clo f caps)] Z Z (fun w0 G F0 => ?_)
 refine sQ (rG (eZ Z (oN (tN (sQ (rG (eZ Z (WO_moveClo tys Z Z (lt_of Z) Z Z (by assumption) ?_))))))))
 refine WO_call Z Z (lt_of Z) Z Z (by repeat (first | exact ResL.done | exact ResL.imms (by first | rfl | assumption) | refine ResL.t ?_ | refine ResL.own ?_ | refine ResL.slA Z (by first | rfl | (simp; done) | (simp; omega)) ?_ | refine ResL.sl Z (by first | omega | (simp; done) | (simp; omega)) ?_ | refine ResL.rp ?_ | refine ResL.clo ?_ ?_ | refine ResL.aggT ?_ ?_ | refine ResL.ref Z ?_ ?_ | refine ResL.nil' ?_ | refine ResL.nil 1 ?_)) (idxCode_fun l p f caps hcaps hl hf) Z ?_
 refine eK 2 Z (oN (tN (rT (eR ?_))))
 ·rw [← idxGo_any (Int.le_refl 0)]
theorem idxRow_fun (l : List Row) (p : Row → Bool) (f : Nat) (caps : List D) (hcaps : caps.all D.imm = true) (hl : l.length ≤ 9223372036854775807) (hf : ∀ x, x ∈ l → Fun Tryz.prog f (.t x.tt :: caps) (.t (.bool (p x)))) : Fun Tryz.prog 196 [.t (T.Rows l), .clo f caps] (tupD [.t (.int (idxGo p l 0))]) := by
 refine Fun.begin tys Tryz.func196 Z Z (N := 19) [(0, .t (T.Rows l)), (1, .clo f caps)] Z Z (fun w0 G F0 => ?_)
 refine sQ (rG (eZ Z (oN (tN (sQ (sQ (rG (eZ Z (evE ?_)))))))))
 refine eZ Z (oN (tN (W_block ?_)))
 refine lK (α := Int) [0, 1, 7] [] (fun x => [(8, .t (.int x))]) (fun x => []) (fun x => 0 ≤ x ∧ x ≤ l.length ∧ idxGo p l 0 = idxGo p (l.drop x.toNat) x) (fun x => Int.toNat (l.length - x)) 0 ?_ (fun k hx => ?_)
 ·exact ⟨by omega, by omega, rfl⟩
 obtain ⟨hk0, hk1, hk2⟩ := hx
 refine nY Z (sQ (rG (eZ Z (oN (tN (sQ ?_))))))
 refine W_cond Z (fun h1 => ?_) (fun h1 => ?_)
 ·
  try simp only [HS] at h1
  refine W_skip (tN (sQ (W_block (sQ (rG (eK 2 Z (oN (tN (sQ (rG (WO_moveClo tys Z Z (lt_of Z) Z Z (by assumption) ?_)))))))))))
  refine eK 2 Z ?_
  first | refine WO_idxT tys rfl rfl (lt_of rfl) rfl rfl rfl rfl rfl rfl rfl (by omega) _ (getT _ _ (by omega) (by omega)) ?_ | refine WO_idxS tys rfl rfl (lt_of rfl) rfl rfl rfl rfl rfl rfl rfl rfl (by omega) (by omega) ?_
  first | (refine ev ?_; try refine WO_le (Le.freeze (u := 15) rfl) ?_) | refine WO_loadL tys rfl rfl (lt_of rfl) rfl rfl rfl rfl (getT _ _ (by omega) (by omega)) rfl ?_ | refine WO_loadL tys rfl rfl (lt_of rfl) rfl rfl rfl rfl (getT0 _ _ (by omega) (by omega)) rfl ?_
  refine nZ Z ?_
  refine WO_call Z Z (lt_of Z) Z Z (by repeat (first | exact ResL.done | exact ResL.imms (by first | rfl | assumption) | refine ResL.t ?_ | refine ResL.own ?_ | refine ResL.slA Z (by first | rfl | (simp; done) | (simp; omega)) ?_ | refine ResL.sl Z (by first | omega | (simp; done) | (simp; omega)) ?_ | refine ResL.rp ?_ | refine ResL.clo ?_ ?_ | refine ResL.aggT ?_ ?_ | refine ResL.ref Z ?_ ?_ | refine ResL.nil' ?_ | refine ResL.nil 1 ?_)) (hf _ (List.getElem_mem _)) Z ?_
  refine kZ [0,1,5,7,8,9,10,11,12,13,14,15,16] Z (oN (tN ?_))
  refine W_cond Z (fun h2 => ?_) (fun h2 => ?_)
  ·
   try simp only [HS] at h2
   refine sQ (rG (eK 2 Z (oN (tN (rT (bR (tR (loopQ_r (bR (tR (eR ?_)))))))))))
   ·first | (rw [hk2, idx_at hk0 h1]; simp [h2]; done) | (rw [hk2, drop_end h1]; rfl)
  try simp only [HS] at h2
  refine W_skip (bN (tN (rG (evI ?_))))
  refine eZ Z (oN ?_)
  refine lQ _ ?_ ?_
  ·try dsimp only
   refine ⟨by omega, by omega, ?_⟩; rw [hk2, idx_at hk0 h1]; simp [h2]
  ·(show Int.toNat _ < Int.toNat _); omega
 try simp only [HS] at h1
 refine W_exit (tE (loopQ_e (inBlk_y (tN (sQ (rG (eZ Z (oN (tN (rT (eR ?_)))))))))))
 ·first | (rw [hk2, idx_at hk0 h1]; simp [h2]; done) | (rw [hk2, drop_end h1]; rfl)
theorem any_notI {α : Type} {p : α → Bool} {l : List α} : (l.any fun n => !p n) = !l.all p := by rw [List.not_all_eq_any_not]
theorem sizedC_yes {c : Code} (h : (0 ≤ c.params ∧ c.params ≤ 2) ∧ (c.params ≤ c.vars ∧ c.vars ≤ 6) ∧ c.sites.length ≤ 4 ∧ (1 ≤ c.ins.length ∧ c.ins.length ≤ 300) ∧ c.rows.length ≤ 300) : sizedC c = c.ins.all insB := by
 unfold sizedC
 rw [decide_eq_true h.1, decide_eq_true h.2.1, decide_eq_true h.2.2.1, decide_eq_true h.2.2.2.1, decide_eq_true h.2.2.2.2]
 simp
theorem isSizedCode_fun (c : Code) (hc : c.ok 1048576) : Fun Tryz.prog 189 [.t c.tt] (tupD [.t (.bool (sizedC c))]) := by
 have hc1 : c.sites.length ≤ 1048576 := hc.1
 have hc2 : c.ins.length ≤ 1048576 := hc.2.1
 have hc3 : c.rows.length ≤ 1048576 := hc.2.2.1
 refine Fun.begin tys Tryz.func189 Z Z (N := 37) [(0, .t c.tt)] Z Z (fun w0 G F0 => ?_)
 refine sQ (rG (WO_box Z Z (lt_of Z) Z Z (nZ Z (eZ Z (oN (tN (sQ (rG (eK 2 Z (callB ?_))))))))))
 refine ⟨_, within_fun _ _ _, rfl, ?_⟩
 refine eZ Z ?_
 refine WO_guard Z Z Z Z (lt_of Z) (fun h1 => ?_) (fun h1 => ?_)
 rotate_left
 ·
  try simp only [HS] at h1
  refine gM Z (gM Z (gM Z (kZ [1,2,6,8,10] Z (gM Z (eK 2 Z (gM Z (gM Z (gM Z (gM Z (eK 2 Z (kZ [1,2,19] Z (gM Z (gM Z (gM Z (gM Z ?_)))))))))))))))
  refine eK 2 Z (gM Z (gM Z (gM Z (kZ [1,2,25,28] Z (gM Z (eK 2 Z (gM Z (gM Z (gM Z (gM Z (eK 2 Z (kZ [2] Z (oN (tN (rT ?_)))))))))))))))
  refine eR ?_
  ·first
   | exact retB (by rw [any_notI, Bool.not_not, sizedC_yes (by omega)])
   | exact retB (by symm; rw [← Bool.not_eq_true]; intro h; obtain ⟨a, b, d, e, f, g⟩ := sizedC_of h; omega)
 try simp only [HS] at h1
 refine eZ Z (gY Z (eZ Z (gY Z (eZ Z (kZ [1,2,6,8,9] Z (gY Z (eZ Z (gY Z (callB ?_)))))))))
 refine ⟨_, within_fun _ _ _, rfl, ?_⟩
 refine eK 2 Z ?_
 refine WO_guard Z Z Z Z (lt_of Z) (fun h2 => ?_) (fun h2 => ?_)
 rotate_left
 ·
  try simp only [HS] at h2
  refine gM Z (gM Z (gM Z (eK 2 Z (kZ [1,2,19] Z (gM Z (gM Z (gM Z (gM Z (eK 2 Z (gM Z (gM Z (gM Z (kZ [1,2,25,28] Z (gM Z (eK 2 Z ?_)))))))))))))))
  refine gM Z (gM Z (gM Z (gM Z (eK 2 Z (kZ [2] Z (oN (tN (rT (eR ?_)))))))))
  ·first
   | exact retB (by rw [any_notI, Bool.not_not, sizedC_yes (by omega)])
   | exact retB (by symm; rw [← Bool.not_eq_true]; intro h; obtain ⟨a, b, d, e, f, g⟩ := sizedC_of h; omega)
 try simp only [HS] at h2
 refine eZ Z (gY Z (eZ Z (gY Z (evE ?_))))
 refine gY Z (eK 2 Z (kZ [1,2,18] Z (eZ Z ?_)))
 refine WO_guard Z Z Z Z (lt_of Z) (fun h3 => ?_) (fun h3 => ?_)
 rotate_left
 ·
  try simp only [HS] at h3
  refine gM Z (gM Z (gM Z (eK 2 Z (gM Z (gM Z (gM Z (kZ [1,2,25,28] Z (gM Z (eK 2 Z (gM Z (gM Z (gM Z (gM Z (eK 2 Z (kZ [2] Z ?_)))))))))))))))
  refine oN (tN (rT (eR ?_)))
  ·first
   | exact retB (by rw [any_notI, Bool.not_not, sizedC_yes (by omega)])
   | exact retB (by symm; rw [← Bool.not_eq_true]; intro h; obtain ⟨a, b, d, e, f, g⟩ := sizedC_of h; omega)
 try simp only [HS] at h3
 refine eZ Z (gY Z (eZ Z (gY Z (evE ?_))))
 refine gY Z (callB ?_)
 refine ⟨_, within_fun _ _ _, rfl, ?_⟩
 refine eK 2 Z ?_
 refine WO_guard Z Z Z Z (lt_of Z) (fun h4 => ?_) (fun h4 => ?_)
 rotate_left
 ·
  try simp only [HS] at h4
  refine gM Z (gM Z (kZ [1,2,25,28] Z (gM Z (eK 2 Z (gM Z (gM Z (gM Z (gM Z (eK 2 Z (kZ [2] Z (oN (tN (rT (eR ?_))))))))))))))
  ·first
   | exact retB (by rw [any_notI, Bool.not_not, sizedC_yes (by omega)])
   | exact retB (by symm; rw [← Bool.not_eq_true]; intro h; obtain ⟨a, b, d, e, f, g⟩ := sizedC_of h; omega)
 try simp only [HS] at h4
 refine eZ Z (gY Z (eZ Z (kZ [1,2,25,27] Z (gY Z (evE ?_)))))
 refine gY Z (eK 3 Z ?_)
 refine WO_guard Z Z Z Z (lt_of Z) (fun h5 => ?_) (fun h5 => ?_)
 rotate_left
 ·
  try simp only [HS] at h5
  refine gM Z (gM Z (gM Z (eK 2 Z (kZ [2] Z (oN (tN (rT (eR ?_))))))))
  ·first
   | exact retB (by rw [any_notI, Bool.not_not, sizedC_yes (by omega)])
   | exact retB (by symm; rw [← Bool.not_eq_true]; intro h; obtain ⟨a, b, d, e, f, g⟩ := sizedC_of h; omega)
 try simp only [HS] at h5
 refine eZ Z (gY Z (eZ Z (gY Z (callB ?_))))
 refine ⟨_, hasIns_fun c.ins (fun i => !insB i) _ [] Z (by omega) (fun i _ => isSizedCode1_fun i), rfl, ?_⟩
 refine gY Z (eK 2 Z (kZ [2,36] Z (eZ Z (oN (tN (rT (eR ?_)))))))
 ·first
  | exact retB (by rw [any_notI, Bool.not_not, sizedC_yes (by omega)])
  | exact retB (by symm; rw [← Bool.not_eq_true]; intro h; obtain ⟨a, b, d, e, f, g⟩ := sizedC_of h; omega)
theorem isSized1_fun (c : Code) (hc : c.ok 1048576) : Fun Tryz.prog 188 [.t c.tt] (tupD [.t (.bool (!sizedC c))]) := by
 refine Fun.begin tys Tryz.func188 Z Z (N := 6) [(0, .t c.tt)] Z Z (fun w0 G F0 => ?_)
 refine sQ (rG (WO_box Z Z (lt_of Z) Z Z (nZ Z (eZ Z (oN (tN (sQ (rG ?_))))))))
 first | (refine ev ?_; try refine WO_le (Le.freeze (u := 3) rfl) ?_) | refine WO_loadMove tys rfl rfl (lt_of rfl) rfl rfl rfl rfl rfl rfl ?_
 refine nZ Z (callB ?_)
 refine ⟨_, isSizedCode_fun _ hc, rfl, ?_⟩
 refine eK 2 Z (oN (tN (rT (eR ?_))))
 ·first | rfl | (simp_all; done)
theorem isSized_fun (im : Image) (hx : im.ok 1048576) : Fun Tryz.prog 139 [.t im.tt] (tupD [.t (.bool (sizedX im))]) := by
 have hxl : im.codes.length ≤ 1048576 := hx.1.1
 refine Fun.begin tys Tryz.func139 Z Z (N := 13) [(0, .t im.tt)] Z Z (fun w0 G F0 => ?_)
 refine sQ (rG (WO_box Z Z (lt_of Z) Z Z (nZ Z (eZ Z (oN (tN (sQ (rG (eK 2 Z (evE ?_))))))))))
 refine callB ?_
 refine ⟨_, within_fun _ _ _, rfl, ?_⟩
 refine eZ Z ?_
 refine WO_guard Z Z Z Z (lt_of Z) (fun h1 => ?_) (fun h1 => ?_)
 rotate_left
 ·
  try simp only [HS] at h1
  refine gM Z (gM Z (kZ [2,7,10] Z (gM Z (eK 2 Z (oN (tN (rT (eR ?_))))))))
  ·first
   | exact retB (by rw [any_notI, Bool.not_not, sizedX, decide_eq_true (by omega), Bool.true_and])
   | exact retB (by symm; rw [← Bool.not_eq_true]; intro h; have := sizedX_of h; omega)
 try simp only [HS] at h1
 refine eZ Z (gY Z (eZ Z (kZ [2,7,9] Z (gY Z (callB ?_)))))
 refine ⟨_, hasCode_fun im.codes (fun c => !sizedC c) _ [] Z (by omega) (fun c hc => isSized1_fun c (hx.1.2 c hc)), rfl, ?_⟩
 refine gY Z (eK 3 Z (oN (tN (rT (eR ?_)))))
 ·first
  | exact retB (by rw [any_notI, Bool.not_not, sizedX, decide_eq_true (by omega), Bool.true_and])
  | exact retB (by symm; rw [← Bool.not_eq_true]; intro h; have := sizedX_of h; omega)
theorem areNamed1_fun (i : Ins) (im : Image) (c : Code) (hxl : im.codes.length ≤ 1048576) (hsl : c.sites.length ≤ 1048576) : Fun Tryz.prog 191 [.t i.tt, .rp c.tt 0, .rp im.tt 0] (tupD [.t (.bool (!namedI im c i))]) := by
 refine Fun.begin tys Tryz.func191 Z Z (N := 32) [(0, .t i.tt), (1, .rp c.tt 0), (2, .rp im.tt 0)] Z Z (fun w0 G F0 => ?_)
 refine sQ (rG (WO_box Z Z (lt_of Z) Z Z (nZ Z (eZ Z (oN (tN (sQ (sQ (rG (eK 2 Z (oN (tN (W_block (sQ (sQ ?_)))))))))))))))
 refine rG (eK 2 Z (oN (tN ?_)))
 refine W_cond Z (fun h1 => ?_) (fun h1 => ?_)
 ·
  try simp only [HS] at h1
  refine W_skip (tN ?_)
  refine W_cond Z (fun h2 => ?_) (fun h2 => ?_)
  ·
   try simp only [HS] at h2
   refine sQ (rG (eK 3 Z (kZ [4,11,12] Z ?_)))
   first | refine ev ?_ | refine WO_loadL tys rfl rfl (lt_of rfl) rfl rfl rfl rfl (getT _ _ (by omega) (by omega)) rfl ?_ | refine WO_loadL tys rfl rfl (lt_of rfl) rfl rfl rfl rfl (getT0 _ _ (by omega) (by omega)) rfl ?_
   refine eK 2 Z (oN (tN (rT (bR (tR (eR ?_))))))
   ·exact retB (by grind [namedI])
  try simp only [HS] at h2
  refine sQ (sQ (rG (eK 2 Z (oN (tN ?_)))))
  refine W_cond Z (fun h3 => ?_) (fun h3 => ?_)
  ·
   try simp only [HS] at h3
   refine W_skip (tN ?_)
   refine W_cond Z (fun h4 => ?_) (fun h4 => ?_)
   ·
    try simp only [HS] at h4
    refine sQ (kY [1,3,4] Z (rG (eK 3 Z ?_)))
    first | refine ev ?_ | refine WO_loadL tys rfl rfl (lt_of rfl) rfl rfl rfl rfl (getT _ _ (by omega) (by omega)) rfl ?_ | refine WO_loadL tys rfl rfl (lt_of rfl) rfl rfl rfl rfl (getT0 _ _ (by omega) (by omega)) rfl ?_
    refine evE ?_
    refine eK 2 Z (oN (tN (rT (bR (tR (eR ?_))))))
    ·exact retB (by grind [namedI])
   try simp only [HS] at h4
   refine sQ (kY [2,3,4,6] Z (rG (eK 2 Z (oN (tN ?_)))))
   refine W_cond Z (fun h5 => ?_) (fun h5 => ?_)
   ·
    try simp only [HS] at h5
    refine sQ (rG (eK 3 Z ?_))
    first | refine ev ?_ | refine WO_loadL tys rfl rfl (lt_of rfl) rfl rfl rfl rfl (getT _ _ (by omega) (by omega)) rfl ?_ | refine WO_loadL tys rfl rfl (lt_of rfl) rfl rfl rfl rfl (getT0 _ _ (by omega) (by omega)) rfl ?_
    refine evE ?_
    refine eK 2 Z (kZ [4] Z (oN (tN (rT (bR (tR (eR ?_)))))))
    ·exact retB (by grind [namedI])
   try simp only [HS] at h5
   refine W_skip (bN (tN (sQ (rG (eZ Z (oN (tN (rT (eR ?_)))))))))
   ·exact retB (by grind [namedI])
  try simp only [HS] at h3
  refine kY [1,2,3,4,6,15] Z (rG (eK 2 Z (oN (tN ?_))))
  refine W_cond Z (fun h4 => ?_) (fun h4 => ?_)
  ·
   try simp only [HS] at h4
   refine sQ (rG (eK 3 Z ?_))
   first | refine ev ?_ | refine WO_loadL tys rfl rfl (lt_of rfl) rfl rfl rfl rfl (getT _ _ (by omega) (by omega)) rfl ?_ | refine WO_loadL tys rfl rfl (lt_of rfl) rfl rfl rfl rfl (getT0 _ _ (by omega) (by omega)) rfl ?_
   refine evE ?_
   refine eK 2 Z (kZ [4] Z (oN (tN (rT (bR (tR (eR ?_)))))))
   ·exact retB (by grind [namedI])
  try simp only [HS] at h4
  refine sQ (rG (eK 2 Z (oN (tN ?_))))
  refine W_cond Z (fun h5 => ?_) (fun h5 => ?_)
  ·
   try simp only [HS] at h5
   refine sQ (rG (eK 3 Z ?_))
   first | refine ev ?_ | refine WO_loadL tys rfl rfl (lt_of rfl) rfl rfl rfl rfl (getT _ _ (by omega) (by omega)) rfl ?_ | refine WO_loadL tys rfl rfl (lt_of rfl) rfl rfl rfl rfl (getT0 _ _ (by omega) (by omega)) rfl ?_
   refine evE ?_
   refine kZ [4,27,30] Z (eK 2 Z (oN (tN (rT (bR (tR (eR ?_)))))))
   ·exact retB (by grind [namedI])
  try simp only [HS] at h5
  refine W_skip (bN (tN (sQ (rG (eZ Z (oN (tN (rT (eR ?_)))))))))
  ·exact retB (by grind [namedI])
 try simp only [HS] at h1
 refine rG (eK 2 Z (oN (tN ?_)))
 refine W_cond Z (fun h2 => ?_) (fun h2 => ?_)
 ·
  try simp only [HS] at h2
  refine sQ (kY [1,3,4] Z (rG (eK 3 Z ?_)))
  first | refine ev ?_ | refine WO_loadL tys rfl rfl (lt_of rfl) rfl rfl rfl rfl (getT _ _ (by omega) (by omega)) rfl ?_ | refine WO_loadL tys rfl rfl (lt_of rfl) rfl rfl rfl rfl (getT0 _ _ (by omega) (by omega)) rfl ?_
  refine eK 2 Z (oN (tN (rT (bR (tR (eR ?_))))))
  ·exact retB (by grind [namedI])
 try simp only [HS] at h2
 refine sQ (sQ (kY [1,2,3,4,6] Z (rG (eK 2 Z (oN (tN ?_))))))
 refine W_cond Z (fun h3 => ?_) (fun h3 => ?_)
 ·
  try simp only [HS] at h3
  refine W_skip (tN ?_)
  refine W_cond Z (fun h4 => ?_) (fun h4 => ?_)
  ·
   try simp only [HS] at h4
   refine sQ (rG (eK 3 Z ?_))
   first | refine ev ?_ | refine WO_loadL tys rfl rfl (lt_of rfl) rfl rfl rfl rfl (getT _ _ (by omega) (by omega)) rfl ?_ | refine WO_loadL tys rfl rfl (lt_of rfl) rfl rfl rfl rfl (getT0 _ _ (by omega) (by omega)) rfl ?_
   refine evE ?_
   refine eK 2 Z (kZ [4] Z (oN (tN (rT (bR (tR (eR ?_)))))))
   ·exact retB (by grind [namedI])
  try simp only [HS] at h4
  refine sQ (rG (eK 2 Z (oN (tN ?_))))
  refine W_cond Z (fun h5 => ?_) (fun h5 => ?_)
  ·
   try simp only [HS] at h5
   refine sQ (rG (eK 3 Z ?_))
   first | refine ev ?_ | refine WO_loadL tys rfl rfl (lt_of rfl) rfl rfl rfl rfl (getT _ _ (by omega) (by omega)) rfl ?_ | refine WO_loadL tys rfl rfl (lt_of rfl) rfl rfl rfl rfl (getT0 _ _ (by omega) (by omega)) rfl ?_
   refine evE ?_
   refine kZ [4,27,30] Z (eK 2 Z (oN (tN (rT (bR (tR (eR ?_)))))))
   ·exact retB (by grind [namedI])
  try simp only [HS] at h5
  refine W_skip (bN (tN (sQ (rG (eZ Z (oN (tN (rT (eR ?_)))))))))
  ·exact retB (by grind [namedI])
 try simp only [HS] at h3
 refine rG (eK 2 Z (oN (tN ?_)))
 refine W_cond Z (fun h4 => ?_) (fun h4 => ?_)
 ·
  try simp only [HS] at h4
  refine sQ (rG (eK 3 Z ?_))
  first | refine ev ?_ | refine WO_loadL tys rfl rfl (lt_of rfl) rfl rfl rfl rfl (getT _ _ (by omega) (by omega)) rfl ?_ | refine WO_loadL tys rfl rfl (lt_of rfl) rfl rfl rfl rfl (getT0 _ _ (by omega) (by omega)) rfl ?_
  refine evE ?_
  refine kZ [4,19,22] Z (eK 2 Z (oN (tN (rT (bR (tR (eR ?_)))))))
  ·exact retB (by grind [namedI])
 try simp only [HS] at h4
 refine sQ (rG (eK 2 Z (oN (tN ?_))))
 refine W_cond Z (fun h5 => ?_) (fun h5 => ?_)
 ·
  try simp only [HS] at h5
  refine sQ (rG (eK 3 Z (kZ [4,27,28] Z ?_)))
  first | refine ev ?_ | refine WO_loadL tys rfl rfl (lt_of rfl) rfl rfl rfl rfl (getT _ _ (by omega) (by omega)) rfl ?_ | refine WO_loadL tys rfl rfl (lt_of rfl) rfl rfl rfl rfl (getT0 _ _ (by omega) (by omega)) rfl ?_
  refine evE ?_
  refine eK 2 Z (oN (tN (rT (bR (tR (eR ?_))))))
  ·exact retB (by grind [namedI])
 try simp only [HS] at h5
 refine W_skip (bN (tN (sQ (rG (eZ Z (oN (tN (rT (eR ?_)))))))))
 ·exact retB (by grind [namedI])
theorem areNamed_fun (im : Image) (c : Code) (hxl : im.codes.length ≤ 1048576) (hcl : c.ins.length ≤ 1048576) (hsl : c.sites.length ≤ 1048576) : Fun Tryz.prog 140 [.t im.tt, .t c.tt] (tupD [.t (.bool (namedB im c))]) := by
 refine Fun.begin tys Tryz.func140 Z Z (N := 10) [(0, .t im.tt), (1, .t c.tt)] Z Z (fun w0 G F0 => ?_)
 refine sQ (rG (WO_box Z Z (lt_of Z) Z Z (nZ Z (WO_box Z Z (lt_of Z) Z Z (nZ Z (eZ Z (oN (tN (sQ (rG (eK 3 Z (callB ?_))))))))))))
 refine ⟨_, hasIns_fun c.ins (fun i => !namedI im c i) _ [.rp c.tt 0, .rp im.tt 0] Z (by omega) (fun i _ => areNamed1_fun i im c hxl hsl), rfl, ?_⟩
 refine eK 2 Z (kZ [4] Z (oN (tN (rT (eR ?_)))))
 ·exact retB (by rw [any_notI, Bool.not_not, namedB])
theorem checkCode1_fun (n : Int) (im : Image) (hxl : im.codes.length ≤ 1048576) : Fun Tryz.prog 141 [.t (.int n), .rp im.tt 0] (tupD [.t (.bool (!siteI im n))]) := by
 refine Fun.begin tys Tryz.func141 Z Z (N := 20) [(0, .t (.int n)), (1, .rp im.tt 0)] Z Z (fun w0 G F0 => ?_)
 refine sQ (rG (eZ Z (oN (tN (sQ (rG (eK 2 Z ?_)))))))
 first | refine ev ?_ | refine WO_loadL tys rfl rfl (lt_of rfl) rfl rfl rfl rfl (getT _ _ (by omega) (by omega)) rfl ?_ | refine WO_loadL tys rfl rfl (lt_of rfl) rfl rfl rfl rfl (getT0 _ _ (by omega) (by omega)) rfl ?_
 refine evE ?_
 refine evI ?_
 refine callB ?_
 refine ⟨_, within_fun _ _ _, rfl, ?_⟩
 refine eK 2 Z (kZ [0,1,3,11] Z ?_)
 refine WO_guard Z Z Z Z (lt_of Z) (fun h1 => ?_) (fun h1 => ?_)
 rotate_left
 ·
  try simp only [HS] at h1
  refine gM Z (gM Z (gM Z (gM Z (gM Z (gM Z (eK 2 Z (oN (tN (rT (eR ?_))))))))))
  ·first
   | exact retB (by rw [siteI_at (by omega) (by omega)]; simp)
   | exact retB (by rw [siteI, decide_eq_false (by omega)]; rfl)
 try simp only [HS] at h1
 refine eZ Z (gY Z ?_)
 first | refine ev ?_ | refine WO_loadL tys rfl rfl (lt_of rfl) rfl rfl rfl rfl (getT _ _ (by omega) (by omega)) rfl ?_ | refine WO_loadL tys rfl rfl (lt_of rfl) rfl rfl rfl rfl (getT0 _ _ (by omega) (by omega)) rfl ?_
 refine gY Z (eZ Z (gY Z ?_))
 first | refine WO_idxT tys rfl rfl (lt_of rfl) rfl rfl rfl rfl rfl rfl rfl (by omega) _ (getT _ _ (by omega) (by omega)) ?_ | refine WO_idxS tys rfl rfl (lt_of rfl) rfl rfl rfl rfl rfl rfl rfl rfl (by omega) (by omega) ?_
 refine gY Z (eZ Z (gY Z ?_))
 first | refine ev ?_ | refine WO_loadL tys rfl rfl (lt_of rfl) rfl rfl rfl rfl (getT _ _ (by omega) (by omega)) rfl ?_ | refine WO_loadL tys rfl rfl (lt_of rfl) rfl rfl rfl rfl (getT0 _ _ (by omega) (by omega)) rfl ?_
 refine gY Z (eK 3 Z (kZ [3] Z (oN (tN (rT (eR ?_))))))
 ·first
  | exact retB (by rw [siteI_at (by omega) (by omega)]; simp)
  | exact retB (by rw [siteI, decide_eq_false (by omega)]; rfl)
theorem areRows_fun (rows : List Row) (many : Int) (hl : rows.length ≤ 1048576) (hm : 0 ≤ many ∧ many ≤ 1048576) : Fun Tryz.prog 143 [.t (T.Rows rows), .t (.int many)] (tupD [.t (.bool (rowsB rows many))]) := by
 refine Fun.begin tys Tryz.func143 Z Z (N := 42) [(0, .t (T.Rows rows)), (1, .t (.int many))] Z Z (fun w0 G F0 => ?_)
 refine sQ (rG (eZ Z (oN (tN (sQ (rG (eZ Z (oN (tN (sQ (sQ (rG (eZ Z (evE ?_))))))))))))))
 refine eZ Z (oN (tN (W_block ?_)))
 refine lK (α := Int × Int) [0, 1, 8, 9] [] (fun x => [(10, .t (.int (x.1))), (5, .t (.int (x.2)))]) (fun x => []) (fun x => 0 ≤ (x.1) ∧ (x.1) ≤ rows.length ∧ rowsB rows many = rowsGo many (rows.drop (x.1).toNat) (x.2)) (fun x => Int.toNat (rows.length - (x.1))) (0, 0) ?_ (fun x hx => ?_)
 ·exact ⟨by omega, by omega, rfl⟩
 obtain ⟨k, e⟩ := x
 obtain ⟨hk0, hk1, hk2⟩ := hx
 try dsimp only at hk0 hk1 hk2 ⊢
 refine nY Z (sQ (rG (eZ Z (oN (tN (sQ ?_))))))
 refine W_cond Z (fun h1 => ?_) (fun h1 => ?_)
 ·
  try simp only [HS] at h1
  refine W_skip (tN (sQ (W_block (sQ (rG ?_)))))
  first | refine WO_idxT tys rfl rfl (lt_of rfl) rfl rfl rfl rfl rfl rfl rfl (by omega) _ (getT _ _ (by omega) (by omega)) ?_ | refine WO_idxS tys rfl rfl (lt_of rfl) rfl rfl rfl rfl rfl rfl rfl rfl (by omega) (by omega) ?_
  first | (refine ev ?_; try refine WO_le (Le.freeze (u := 13) rfl) ?_) | refine WO_loadL tys rfl rfl (lt_of rfl) rfl rfl rfl rfl (getT _ _ (by omega) (by omega)) rfl ?_ | refine WO_loadL tys rfl rfl (lt_of rfl) rfl rfl rfl rfl (getT0 _ _ (by omega) (by omega)) rfl ?_
  refine nZ Z (WO_alloc tys Z Z (lt_of Z) Z Z Z (nZ Z (sT Z (nZ Z (oN (tN (sQ (sQ (rG (eK 4 Z (kZ [0,1,5,7,8,9,10,11,12,13,14,15,16,17] Z (eZ Z ?_))))))))))))
  refine WO_guard Z Z Z Z (lt_of Z) (fun h2 => ?_) (fun h2 => ?_)
  rotate_left
  ·
   try simp only [HS] at h2
   refine gM Z (gM Z (gM Z (gM Z (eK 2 Z (gM Z (gM Z (kZ [0,1,5,7,8,9,10,11,12,13,14,15,16,17,18,19,20,21,22,23,24,25,26,27] Z (gM Z (gM Z (eK 2 Z (gM Z (gM Z (gM Z (gM Z (gM Z ?_)))))))))))))))
   refine kZ [0,1,5,7,8,9,10,11,12,13,14,15,16,17,18,19,20,21,22,23,24,25,26,27,28,29,30,31,32,33,34,35,36] Z (gM Z (eZ Z (oN (tN (W_condT Z (sQ (rG (eZ Z (oN (tN (rT (tR (bR (tR (loopQ_r ?_)))))))))))))))
   refine bR (tR (eR ?_))
   ·first
    | exact retB (by rw [hk2, drop_end (by omega)]; rfl)
    | exact retB (by rw [hk2, drop_at hk0 (by omega), rowsGo]; simp_all <;> omega)
  try simp only [HS] at h2
  refine eZ Z (gY Z (eZ Z (gY Z (eZ Z (gY Z (eZ Z (gY Z (eK 3 Z ?_))))))))
  refine WO_guard Z Z Z Z (lt_of Z) (fun h3 => ?_) (fun h3 => ?_)
  rotate_left
  ·
   try simp only [HS] at h3
   refine gM Z (kZ [0,1,5,7,8,9,10,11,12,13,14,15,16,17,18,19,20,21,22,23,24,25,26,27] Z (gM Z (gM Z (eK 2 Z (gM Z (gM Z (gM Z (gM Z (gM Z (kZ [0,1,5,7,8,9,10,11,12,13,14,15,16,17,18,19,20,21,22,23,24,25,26,27,28,29,30,31,32,33,34,35,36] Z (gM Z (eZ Z (oN (tN (W_condT Z ?_)))))))))))))))
   refine sQ (rG (eZ Z (oN (tN (rT (tR (bR (tR (loopQ_r (bR (tR (eR ?_))))))))))))
   ·first
    | exact retB (by rw [hk2, drop_end (by omega)]; rfl)
    | exact retB (by rw [hk2, drop_at hk0 (by omega), rowsGo]; simp_all <;> omega)
  try simp only [HS] at h3
  refine eZ Z (gY Z (eZ Z (kZ [0,1,5,7,8,9,10,11,12,13,14,15,16,17,18,19,20,21,22,23,24,25,26,27] Z (gY Z (eZ Z (gY Z (eK 3 Z ?_)))))))
  refine WO_guard Z Z Z Z (lt_of Z) (fun h4 => ?_) (fun h4 => ?_)
  rotate_left
  ·
   try simp only [HS] at h4
   refine gM Z (gM Z (gM Z (gM Z (gM Z (kZ [0,1,5,7,8,9,10,11,12,13,14,15,16,17,18,19,20,21,22,23,24,25,26,27,28,29,30,31,32,33,34,35,36,37] Z (eZ Z (oN (tN (W_condT Z (sQ (rG (eZ Z (oN (tN (rT ?_)))))))))))))))
   refine tR (bR (tR (loopQ_r (bR (tR (eR ?_))))))
   ·first
    | exact retB (by rw [hk2, drop_end (by omega)]; rfl)
    | exact retB (by rw [hk2, drop_at hk0 (by omega), rowsGo]; simp_all <;> omega)
  try simp only [HS] at h4
  refine eZ Z (gY Z (eZ Z (gY Z (eZ Z (gY Z (evI ?_))))))
  refine gY Z (callB ?_)
  refine ⟨_, within_fun _ _ _, rfl, ?_⟩
  refine kZ [0,1,5,7,8,9,10,11,12,13,14,15,16,17,18,19,20,21,22,23,24,25,26,27,28,29,30,31,32,33,34,35,36] Z (gY Z (eK 2 Z (oN (tN ?_))))
  refine W_cond Z (fun h5 => ?_) (fun h5 => ?_)
  ·
   try simp only [HS] at h5
   refine sQ (rG (eZ Z (oN (tN (rT (tR (bR (tR (loopQ_r (bR (tR (eR ?_))))))))))))
   ·first
    | exact retB (by rw [hk2, drop_end (by omega)]; rfl)
    | exact retB (by rw [hk2, drop_at hk0 (by omega), rowsGo]; simp_all <;> omega)
  try simp only [HS] at h5
  refine W_skip (tN (rG (eK 3 Z (oN (bN (tN (rG (evI ?_))))))))
  refine eZ Z (oN ?_)
  refine lQ (_, _) ?_ ?_
  ·try dsimp only
   refine ⟨by omega, by omega, ?_⟩
   rw [hk2, drop_at hk0 (by omega), rowsGo]
   simp_all <;> omega
  ·(show Int.toNat _ < Int.toNat _); omega
 try simp only [HS] at h1
 refine W_exit (tE (loopQ_e (inBlk_y (tN (sQ (rG (eZ Z (oN (tN (rT (eR ?_)))))))))))
 ·first
  | exact retB (by rw [hk2, drop_end (by omega)]; rfl)
  | exact retB (by rw [hk2, drop_at hk0 (by omega), rowsGo]; simp_all <;> omega)
theorem rowOf1_fun (r : Row) (k : Int) : Fun Tryz.prog 197 [.t r.tt, .rp (.agg [T.int k]) 0] (tupD [.t (.bool (decide (r.lo ≤ k ∧ k < r.hi)))]) := by
 refine Fun.begin tys Tryz.func197 Z Z (N := 14) [(0, .t r.tt), (1, .rp (.agg [T.int k]) 0)] Z Z (fun w0 G F0 => ?_)
 refine sQ (rG (WO_box Z Z (lt_of Z) Z Z (nZ Z (eZ Z (oN (tN (sQ (rG (eK 2 Z ?_)))))))))
 first | refine ev ?_ | refine WO_loadL tys rfl rfl (lt_of rfl) rfl rfl rfl rfl (getT _ _ (by omega) (by omega)) rfl ?_ | refine WO_loadL tys rfl rfl (lt_of rfl) rfl rfl rfl rfl (getT0 _ _ (by omega) (by omega)) rfl ?_
 refine eK 2 Z ?_
 refine WO_guard Z Z Z Z (lt_of Z) (fun h1 => ?_) (fun h1 => ?_)
 rotate_left
 ·
  try simp only [HS] at h1
  refine gM Z (gM Z (kZ [3,8,9,11] Z (gM Z (eK 2 Z (oN (tN (rT (eR ?_))))))))
  ·exact retB (by simp_all <;> omega)
 try simp only [HS] at h1
 first | refine ev ?_ | refine WO_loadL tys rfl rfl (lt_of rfl) rfl rfl rfl rfl (getT _ _ (by omega) (by omega)) rfl ?_ | refine WO_loadL tys rfl rfl (lt_of rfl) rfl rfl rfl rfl (getT0 _ _ (by omega) (by omega)) rfl ?_
 refine gY Z (eZ Z (kZ [3,8,9,10] Z (gY Z (eZ Z (gY Z (eK 3 Z (oN (tN (rT (eR ?_))))))))))
 ·exact retB (by simp_all <;> omega)
theorem row_idx (k : Int) : ∀ (l : List Row) (j : Nat), rowGo k l j = idxGo (fun r => decide (r.lo ≤ k ∧ k < r.hi)) l (j : Int)
 | [], _ => rfl
 | r :: l, j => by
  rw [rowGo, idxGo, row_idx k l (j + 1)]
  simp
theorem rowOf_fun (rows : List Row) (k : Int) (hl : rows.length ≤ 1048576) : Fun Tryz.prog 145 [.t (T.Rows rows), .t (.int k)] (tupD [.t (.int (rowX rows k))]) := by
 refine Fun.begin tys Tryz.func145 Z Z (N := 8) [(0, .t (T.Rows rows)), (1, .t (.int k))] Z Z (fun w0 G F0 => ?_)
 refine sQ (rG (WO_box Z Z (lt_of Z) Z Z (nZ Z (eZ Z (oN (tN (sQ (rG (eK 2 Z (callB ?_))))))))))
 refine ⟨_, idxRow_fun rows (fun r => decide (r.lo ≤ k ∧ k < r.hi)) _ [.rp (.agg [T.int k]) 0] Z (by omega) (fun r _ => rowOf1_fun r k), rfl, ?_⟩
 refine eZ Z (oN (tN (rT (eR ?_))))
 ·(rw [rowX, row_idx]; rfl)
theorem takesPuts_fun (im : Image) (i : Ins) (hxl : im.codes.length ≤ 1048576) (hcall : i.op = 7 → 0 ≤ i.n ∧ i.n < im.codes.length) : Fun Tryz.prog 195 [.t im.tt, .t i.tt] (tupD [.t (.int (tkX im i)), .t (.int (ptX i))]) := by
 refine Fun.begin tys Tryz.func195 Z Z (N := 31) [(0, .t im.tt), (1, .t i.tt)] Z Z (fun w0 G F0 => ?_)
 refine sQ (rG (WO_box Z Z (lt_of Z) Z Z (nZ Z (WO_box Z Z (lt_of Z) Z Z (nZ Z (eK 2 Z (oN (tN (sQ (sQ (rG (eK 2 Z (oN (tN (W_block ?_)))))))))))))))
 refine sQ (sQ (rG (eK 2 Z (oN (tN ?_)))))
 refine W_joinN (α := Bool) [2, 3, 4, 5, 7] [2, 3] (fun x => [(8, .t (.bool x))]) (fun x => []) (fun x => x = decide (i.op = 1 ∨ i.op = 2 ∨ i.op = 5 ∨ i.op = 6)) ?_ (fun b hx => ?_)
 ·
  refine W_cond Z (fun h1 => ?_) (fun h1 => ?_)
  ·
   try simp only [HS] at h1
   refine W_skip ?_
   refine joinQ_n _ (by (try dsimp only); repeat (first | exact Sub.nil' | refine Sub.cons' rfl ?_)) (by (try dsimp only); repeat (first | exact SubM.nil' | refine SubM.cons' rfl ?_)) ?_
   try dsimp only
   grind
  try simp only [HS] at h1
  refine sQ (kY [2,3,4,5,7,8] Z (rG (eK 2 Z (oN (tN ?_)))))
  refine W_cond Z (fun h2 => ?_) (fun h2 => ?_)
  ·
   try simp only [HS] at h2
   refine W_skip ?_
   refine joinQ_n _ (by (try dsimp only); repeat (first | exact Sub.nil' | refine Sub.cons' rfl ?_)) (by (try dsimp only); repeat (first | exact SubM.nil' | refine SubM.cons' rfl ?_)) ?_
   try dsimp only
   grind
  try simp only [HS] at h2
  refine sQ (rG (eK 2 Z (oN (tN ?_))))
  refine W_cond Z (fun h3 => ?_) (fun h3 => ?_)
  ·
   try simp only [HS] at h3
   refine W_skip ?_
   refine joinQ_n _ (by (try dsimp only); repeat (first | exact Sub.nil' | refine Sub.cons' rfl ?_)) (by (try dsimp only); repeat (first | exact SubM.nil' | refine SubM.cons' rfl ?_)) ?_
   try dsimp only
   grind
  try simp only [HS] at h3
  refine rG (eK 2 Z (oN ?_))
  refine joinQ_n _ (by (try dsimp only); repeat (first | exact Sub.nil' | refine Sub.cons' rfl ?_)) (by (try dsimp only); repeat (first | exact SubM.nil' | refine SubM.cons' rfl ?_)) ?_
  try dsimp only
  grind
 have hb := hx
 refine tN ?_
 refine W_cond Z (fun h1 => ?_) (fun h1 => ?_)
 ·
  try simp only [HS] at h1
  refine sQ (kY [4,5] Z (rG (eK 2 Z (oN (tN (rT (bR (tR (eR ?_)))))))))
  ·first
   | exact retNN (two_of hcall (by assumption)) (by grind [ptX])
   | exact retNN (by grind [tkX]) (by grind [ptX])
 try simp only [HS] at h1
 refine sQ (sQ (kY [2,3,4,5,7] Z (rG (eK 2 Z (oN (tN ?_))))))
 refine W_cond Z (fun h2 => ?_) (fun h2 => ?_)
 ·
  try simp only [HS] at h2
  refine W_skip (tN ?_)
  refine W_cond Z (fun h3 => ?_) (fun h3 => ?_)
  ·
   try simp only [HS] at h3
   refine sQ (rG (eK 2 Z (oN (tN (rT (bR (tR (eR ?_))))))))
   ·first
    | exact retNN (two_of hcall (by assumption)) (by grind [ptX])
    | exact retNN (by grind [tkX]) (by grind [ptX])
  try simp only [HS] at h3
  refine sQ (rG (eK 2 Z (oN (tN ?_))))
  refine W_cond Z (fun h4 => ?_) (fun h4 => ?_)
  ·
   try simp only [HS] at h4
   refine sQ (rG (eK 2 Z (oN (tN (rT (bR (tR (eR ?_))))))))
   ·first
    | exact retNN (two_of hcall (by assumption)) (by grind [ptX])
    | exact retNN (by grind [tkX]) (by grind [ptX])
  try simp only [HS] at h4
  refine sQ (rG (eK 2 Z (oN (tN ?_))))
  refine W_cond Z (fun h5 => ?_) (fun h5 => ?_)
  ·
   try simp only [HS] at h5
   refine sQ (rG (eK 3 Z (kZ [4,5,25,26] Z (eZ Z ?_))))
   have h77 := hcall (by assumption)
   first | refine WO_idxT tys rfl rfl (lt_of rfl) rfl rfl rfl rfl rfl rfl rfl (by omega) _ (getT _ _ (by omega) (by omega)) ?_ | refine WO_idxS tys rfl rfl (lt_of rfl) rfl rfl rfl rfl rfl rfl rfl rfl (by omega) (by omega) ?_
   refine eZ Z ?_
   first | refine ev ?_ | refine WO_loadL tys rfl rfl (lt_of rfl) rfl rfl rfl rfl (getT _ _ (by omega) (by omega)) rfl ?_ | refine WO_loadL tys rfl rfl (lt_of rfl) rfl rfl rfl rfl (getT0 _ _ (by omega) (by omega)) rfl ?_
   refine eK 2 Z (oN (tN (rT (bR (tR (eR ?_))))))
   ·first
    | exact retNN (two_of hcall (by assumption)) (by grind [ptX])
    | exact retNN (by grind [tkX]) (by grind [ptX])
  try simp only [HS] at h5
  refine W_skip (bN (tN (sQ (rG (eK 2 Z (oN (tN (rT (eR ?_)))))))))
  ·first
   | exact retNN (two_of hcall (by assumption)) (by grind [ptX])
   | exact retNN (by grind [tkX]) (by grind [ptX])
 try simp only [HS] at h2
 refine sQ (rG (eK 2 Z (oN (tN ?_))))
 refine W_cond Z (fun h3 => ?_) (fun h3 => ?_)
 ·
  try simp only [HS] at h3
  refine W_skip (tN ?_)
  refine W_cond Z (fun h4 => ?_) (fun h4 => ?_)
  ·
   try simp only [HS] at h4
   refine sQ (rG (eK 2 Z (oN (tN (rT (bR (tR (eR ?_))))))))
   ·first
    | exact retNN (two_of hcall (by assumption)) (by grind [ptX])
    | exact retNN (by grind [tkX]) (by grind [ptX])
  try simp only [HS] at h4
  refine sQ (rG (eK 2 Z (oN (tN ?_))))
  refine W_cond Z (fun h5 => ?_) (fun h5 => ?_)
  ·
   try simp only [HS] at h5
   refine sQ (rG (eK 2 Z (oN (tN (rT (bR (tR (eR ?_))))))))
   ·first
    | exact retNN (two_of hcall (by assumption)) (by grind [ptX])
    | exact retNN (by grind [tkX]) (by grind [ptX])
  try simp only [HS] at h5
  refine sQ (rG (eK 2 Z (oN (tN ?_))))
  refine W_cond Z (fun h6 => ?_) (fun h6 => ?_)
  ·
   try simp only [HS] at h6
   refine sQ (kY [2,3,4,5] Z (rG (eK 4 Z ?_)))
   have h77 := hcall (by assumption)
   first | refine WO_idxT tys rfl rfl (lt_of rfl) rfl rfl rfl rfl rfl rfl rfl (by omega) _ (getT _ _ (by omega) (by omega)) ?_ | refine WO_idxS tys rfl rfl (lt_of rfl) rfl rfl rfl rfl rfl rfl rfl rfl (by omega) (by omega) ?_
   refine eZ Z ?_
   first | refine ev ?_ | refine WO_loadL tys rfl rfl (lt_of rfl) rfl rfl rfl rfl (getT _ _ (by omega) (by omega)) rfl ?_ | refine WO_loadL tys rfl rfl (lt_of rfl) rfl rfl rfl rfl (getT0 _ _ (by omega) (by omega)) rfl ?_
   refine eK 2 Z (kZ [4,5] Z (oN (tN (rT (bR (tR (eR ?_)))))))
   ·first
    | exact retNN (two_of hcall (by assumption)) (by grind [ptX])
    | exact retNN (by grind [tkX]) (by grind [ptX])
  try simp only [HS] at h6
  refine W_skip (bN (tN (sQ (kY [4,5] Z (rG (eK 2 Z (oN (tN (rT (eR ?_))))))))))
  ·first
   | exact retNN (two_of hcall (by assumption)) (by grind [ptX])
   | exact retNN (by grind [tkX]) (by grind [ptX])
 try simp only [HS] at h3
 refine sQ (rG (eK 2 Z (oN (tN ?_))))
 refine W_cond Z (fun h4 => ?_) (fun h4 => ?_)
 ·
  try simp only [HS] at h4
  refine W_skip (tN ?_)
  refine W_cond Z (fun h5 => ?_) (fun h5 => ?_)
  ·
   try simp only [HS] at h5
   refine sQ (rG (eK 2 Z (oN (tN (rT (bR (tR (eR ?_))))))))
   ·first
    | exact retNN (two_of hcall (by assumption)) (by grind [ptX])
    | exact retNN (by grind [tkX]) (by grind [ptX])
  try simp only [HS] at h5
  refine sQ (rG (eK 2 Z (oN (tN ?_))))
  refine W_cond Z (fun h6 => ?_) (fun h6 => ?_)
  ·
   try simp only [HS] at h6
   refine sQ (kY [4,5] Z (rG (eK 2 Z (oN (tN (rT (bR (tR (eR ?_)))))))))
   ·first
    | exact retNN (two_of hcall (by assumption)) (by grind [ptX])
    | exact retNN (by grind [tkX]) (by grind [ptX])
  try simp only [HS] at h6
  refine sQ (kY [2,3,4,5,7] Z (rG (eK 2 Z (oN (tN ?_)))))
  refine W_cond Z (fun h7 => ?_) (fun h7 => ?_)
  ·
   try simp only [HS] at h7
   refine sQ (rG (eK 4 Z ?_))
   have h77 := hcall (by assumption)
   first | refine WO_idxT tys rfl rfl (lt_of rfl) rfl rfl rfl rfl rfl rfl rfl (by omega) _ (getT _ _ (by omega) (by omega)) ?_ | refine WO_idxS tys rfl rfl (lt_of rfl) rfl rfl rfl rfl rfl rfl rfl rfl (by omega) (by omega) ?_
   refine eZ Z ?_
   first | refine ev ?_ | refine WO_loadL tys rfl rfl (lt_of rfl) rfl rfl rfl rfl (getT _ _ (by omega) (by omega)) rfl ?_ | refine WO_loadL tys rfl rfl (lt_of rfl) rfl rfl rfl rfl (getT0 _ _ (by omega) (by omega)) rfl ?_
   refine kZ [4,5,30] Z (eK 2 Z (oN (tN (rT (bR (tR (eR ?_)))))))
   ·first
    | exact retNN (two_of hcall (by assumption)) (by grind [ptX])
    | exact retNN (by grind [tkX]) (by grind [ptX])
  try simp only [HS] at h7
  refine W_skip (bN (tN (sQ (rG (eK 2 Z (oN (tN (rT (eR ?_)))))))))
  ·first
   | exact retNN (two_of hcall (by assumption)) (by grind [ptX])
   | exact retNN (by grind [tkX]) (by grind [ptX])
 try simp only [HS] at h4
 refine sQ (rG (eK 2 Z (oN (tN ?_))))
 refine W_cond Z (fun h5 => ?_) (fun h5 => ?_)
 ·
  try simp only [HS] at h5
  refine W_skip (tN ?_)
  refine W_cond Z (fun h6 => ?_) (fun h6 => ?_)
  ·
   try simp only [HS] at h6
   refine sQ (kY [4,5] Z (rG (eK 2 Z (oN (tN (rT (bR (tR (eR ?_)))))))))
   ·first
    | exact retNN (two_of hcall (by assumption)) (by grind [ptX])
    | exact retNN (by grind [tkX]) (by grind [ptX])
  try simp only [HS] at h6
  refine sQ (kY [2,3,4,5,7] Z (rG (eK 2 Z (oN (tN ?_)))))
  refine W_cond Z (fun h7 => ?_) (fun h7 => ?_)
  ·
   try simp only [HS] at h7
   refine sQ (rG (eK 2 Z (oN (tN (rT (bR (tR (eR ?_))))))))
   ·first
    | exact retNN (two_of hcall (by assumption)) (by grind [ptX])
    | exact retNN (by grind [tkX]) (by grind [ptX])
  try simp only [HS] at h7
  refine sQ (rG (eK 2 Z (oN (tN ?_))))
  refine W_cond Z (fun h8 => ?_) (fun h8 => ?_)
  ·
   try simp only [HS] at h8
   refine sQ (rG (eK 4 Z ?_))
   have h77 := hcall (by assumption)
   first | refine WO_idxT tys rfl rfl (lt_of rfl) rfl rfl rfl rfl rfl rfl rfl (by omega) _ (getT _ _ (by omega) (by omega)) ?_ | refine WO_idxS tys rfl rfl (lt_of rfl) rfl rfl rfl rfl rfl rfl rfl rfl (by omega) (by omega) ?_
   refine kZ [4,5,28] Z (eZ Z ?_)
   first | refine ev ?_ | refine WO_loadL tys rfl rfl (lt_of rfl) rfl rfl rfl rfl (getT _ _ (by omega) (by omega)) rfl ?_ | refine WO_loadL tys rfl rfl (lt_of rfl) rfl rfl rfl rfl (getT0 _ _ (by omega) (by omega)) rfl ?_
   refine eK 2 Z (oN (tN (rT (bR (tR (eR ?_))))))
   ·first
    | exact retNN (two_of hcall (by assumption)) (by grind [ptX])
    | exact retNN (by grind [tkX]) (by grind [ptX])
  try simp only [HS] at h8
  refine W_skip (bN (tN (sQ (rG (eK 2 Z (oN (tN (rT (eR ?_)))))))))
  ·first
   | exact retNN (two_of hcall (by assumption)) (by grind [ptX])
   | exact retNN (by grind [tkX]) (by grind [ptX])
 try simp only [HS] at h5
 refine sQ (kY [2,3,4,5,7,13] Z (rG (eK 2 Z (oN (tN ?_)))))
 refine W_cond Z (fun h6 => ?_) (fun h6 => ?_)
 ·
  try simp only [HS] at h6
  refine W_skip (tN ?_)
  refine W_cond Z (fun h7 => ?_) (fun h7 => ?_)
  ·
   try simp only [HS] at h7
   refine sQ (rG (eK 2 Z (oN (tN (rT (bR (tR (eR ?_))))))))
   ·first
    | exact retNN (two_of hcall (by assumption)) (by grind [ptX])
    | exact retNN (by grind [tkX]) (by grind [ptX])
  try simp only [HS] at h7
  refine sQ (rG (eK 2 Z (oN (tN ?_))))
  refine W_cond Z (fun h8 => ?_) (fun h8 => ?_)
  ·
   try simp only [HS] at h8
   refine sQ (rG (eK 2 Z (oN (tN (rT (bR (tR (eR ?_))))))))
   ·first
    | exact retNN (two_of hcall (by assumption)) (by grind [ptX])
    | exact retNN (by grind [tkX]) (by grind [ptX])
  try simp only [HS] at h8
  refine sQ (rG (eK 2 Z (oN (tN ?_))))
  refine W_cond Z (fun h9 => ?_) (fun h9 => ?_)
  ·
   try simp only [HS] at h9
   refine sQ (rG (eK 3 Z (kZ [4,5,25,26] Z (eZ Z ?_))))
   have h77 := hcall (by assumption)
   first | refine WO_idxT tys rfl rfl (lt_of rfl) rfl rfl rfl rfl rfl rfl rfl (by omega) _ (getT _ _ (by omega) (by omega)) ?_ | refine WO_idxS tys rfl rfl (lt_of rfl) rfl rfl rfl rfl rfl rfl rfl rfl (by omega) (by omega) ?_
   refine eZ Z ?_
   first | refine ev ?_ | refine WO_loadL tys rfl rfl (lt_of rfl) rfl rfl rfl rfl (getT _ _ (by omega) (by omega)) rfl ?_ | refine WO_loadL tys rfl rfl (lt_of rfl) rfl rfl rfl rfl (getT0 _ _ (by omega) (by omega)) rfl ?_
   refine eK 2 Z (oN (tN (rT (bR (tR (eR ?_))))))
   ·first
    | exact retNN (two_of hcall (by assumption)) (by grind [ptX])
    | exact retNN (by grind [tkX]) (by grind [ptX])
  try simp only [HS] at h9
  refine W_skip (bN (tN (sQ (rG (eK 2 Z (oN (tN (rT (eR ?_)))))))))
  ·first
   | exact retNN (two_of hcall (by assumption)) (by grind [ptX])
   | exact retNN (by grind [tkX]) (by grind [ptX])
 try simp only [HS] at h6
 refine rG (eK 2 Z (oN (tN ?_)))
 refine W_cond Z (fun h7 => ?_) (fun h7 => ?_)
 ·
  try simp only [HS] at h7
  refine sQ (rG (eK 2 Z (oN (tN (rT (bR (tR (eR ?_))))))))
  ·first
   | exact retNN (two_of hcall (by assumption)) (by grind [ptX])
   | exact retNN (by grind [tkX]) (by grind [ptX])
 try simp only [HS] at h7
 refine sQ (rG (eK 2 Z (oN (tN ?_))))
 refine W_cond Z (fun h8 => ?_) (fun h8 => ?_)
 ·
  try simp only [HS] at h8
  refine sQ (rG (eK 2 Z (oN (tN (rT (bR (tR (eR ?_))))))))
  ·first
   | exact retNN (two_of hcall (by assumption)) (by grind [ptX])
   | exact retNN (by grind [tkX]) (by grind [ptX])
 try simp only [HS] at h8
 refine sQ (rG (eK 2 Z (oN (tN ?_))))
 refine W_cond Z (fun h9 => ?_) (fun h9 => ?_)
 ·
  try simp only [HS] at h9
  refine sQ (kY [2,3,4,5] Z (rG (eK 4 Z ?_)))
  have h77 := hcall (by assumption)
  first | refine WO_idxT tys rfl rfl (lt_of rfl) rfl rfl rfl rfl rfl rfl rfl (by omega) _ (getT _ _ (by omega) (by omega)) ?_ | refine WO_idxS tys rfl rfl (lt_of rfl) rfl rfl rfl rfl rfl rfl rfl rfl (by omega) (by omega) ?_
  refine eZ Z ?_
  first | refine ev ?_ | refine WO_loadL tys rfl rfl (lt_of rfl) rfl rfl rfl rfl (getT _ _ (by omega) (by omega)) rfl ?_ | refine WO_loadL tys rfl rfl (lt_of rfl) rfl rfl rfl rfl (getT0 _ _ (by omega) (by omega)) rfl ?_
  refine eK 2 Z (kZ [4,5] Z (oN (tN (rT (bR (tR (eR ?_)))))))
  ·first
   | exact retNN (two_of hcall (by assumption)) (by grind [ptX])
   | exact retNN (by grind [tkX]) (by grind [ptX])
 try simp only [HS] at h9
 refine W_skip (bN (tN (sQ (kY [4,5] Z (rG (eK 2 Z (oN (tN (rT (eR ?_))))))))))
 ·first
  | exact retNN (two_of hcall (by assumption)) (by grind [ptX])
  | exact retNN (by grind [tkX]) (by grind [ptX])
open Go.Eng Go.RowKit
theorem Fun.plain {P : Program} {f : FuncId} {vs : List Value} {u : Value} {r : Go.Eng.D} (hc : Callable P f) (h : ∀ w, Calls P f vs.toArray w fun e w' => e = .returned u ∧ w' = w) (hr : ∀ (w : World) (F : Nat → Prop), RelD w F (fun _ => none) [u] [r] []) : Eng.Fun P f (vs.map fun v => .t (.v v)) r := by
 refine ⟨hc, fun w F args hF hargs => ?_⟩
 have key : ∀ {vs : List Value} {ws : List Value}, RelD w F (fun _ => none) ws (vs.map fun v => Go.Eng.D.t (.v v)) [] → ws = vs := by
  intro vs
  induction vs with
  | nil => intro ws h; cases h; rfl
  | cons v vs ih =>
   intro ws h
   cases ws with
   | nil => cases h
   | cons a ws =>
    obtain ⟨b1, b2, h1, h2, h3⟩ := RelD.cons h
    obtain ⟨rfl, rfl⟩ := List.append_eq_nil_iff.1 h3.symm
    rw [relD_t h1, ih h2]
 have he := key hargs
 have ha : args = vs.toArray := by rw [← he]
 subst ha
 refine (h w).mono ?_
 rintro e w' ⟨rfl, rfl⟩
 exact ⟨u, F, [], rfl, Below.refl _ _, fun _ h => h, fun _ h => .inl h, hr _ _, by simp, by simp⟩
theorem bits_Mul64 (x y : Nat) (hx : x < 18446744073709551616) (hy : y < 18446744073709551616) (w : World) :
  Calls Tryz.prog 237 #[.int .u64 x, .int .u64 y] w fun e w' => e = .returned (.tuple #[.int .u64 ((x * y / 18446744073709551616 : Nat) : Int), .int .u64 ((x * y % 18446744073709551616 : Nat) : Int)]) ∧ w' = w := by
 obtain ⟨bd, bt, bw, hhi⟩ := Lib.mul64_hi x y hx hy
 have ba := Lib.half_mul_le (a := x / 4294967296) (b := y / 4294967296) (by omega) (by omega)
 have bb := Lib.half_mul_le (a := x / 4294967296) (b := y % 4294967296) (by omega) (by omega)
 have bc := Lib.half_mul_le (a := x % 4294967296) (b := y / 4294967296) (by omega) (by omega)
 have ba' : x / 4294967296 * (y / 4294967296) < 18446744073709551616 := by omega
 have bb' : x / 4294967296 * (y % 4294967296) < 18446744073709551616 := by omega
 have bc' : x % 4294967296 * (y / 4294967296) < 18446744073709551616 := by omega
 have bh1 : x / 4294967296 * (y / 4294967296) + (x / 4294967296 * (y % 4294967296) + x % 4294967296 * (y % 4294967296) / 4294967296) / 4294967296 < 18446744073709551616 := by omega
 have bh : x / 4294967296 * (y / 4294967296) + (x / 4294967296 * (y % 4294967296) + x % 4294967296 * (y % 4294967296) / 4294967296) / 4294967296 + ((x / 4294967296 * (y % 4294967296) + x % 4294967296 * (y % 4294967296) / 4294967296) % 4294967296 + x % 4294967296 * (y / 4294967296)) / 4294967296 < 18446744073709551616 := by omega
 go_enter Tryz.func237, Tryz.ntmps237
 go_wp2
 simp only [Mul64.maskN x hx, Mul64.maskN y hy, Mul64.divN, Mul64.mulN, Mul64.addN, Mul64.wrapN _ bd, Mul64.wrapN _ bb', Mul64.wrapN _ bt, Mul64.maskN _ bt, Mul64.wrapN _ bc', Mul64.wrapN _ bw, Mul64.wrapN _ ba', Mul64.wrapN _ bh1, Mul64.wrapN _ bh, Mul64.wrapM (x * y)]
 rw [hhi]
 go_ret2
 exact ⟨rfl, rfl⟩
theorem mul64_fun (n : Nat) (h : n ≤ 1048576) : Eng.Fun Tryz.prog 237 [.t (.v (.int .u64 1)), .t (.v (.int .u64 n))] (.tup [.t (.v (.int .u64 0)), .t (.v (.int .u64 n))]) := by
 refine Fun.plain (vs := [.int .u64 1, .int .u64 n]) (u := .tuple #[.int .u64 0, .int .u64 n]) ⟨_, Tryz.func237, rfl, rfl⟩ (fun w => ?_) (fun w F => ?_)
 ·have := bits_Mul64 1 n (by omega) (by omega) w
  rw [Nat.one_mul, Nat.div_eq_of_lt (by omega), Nat.mod_eq_of_lt (by omega)] at this
  exact this
 ·exact RelD.tup (bs := []) (bs' := []) (.t (.v rfl .nil) (.t (.v rfl .nil) .done)) .done
theorem bits_Len64 (w : World) : Calls Tryz.prog 251 #[.int .u64 2] w fun e w' => e = .returned (.int .i64 2) ∧ w' = w := by
 go_enter Tryz.func251, Tryz.ntmps251
 go_wp2
 all_goals (go_ret; refine ⟨congrArg Ending.returned (congrArg (Value.int IntKind.i64) ?_), rfl⟩)
 all_goals (rw [Lib.len8_of 2 (by omega) (by omega), show Lib.bitLen (Int.toNat 2) = 2 from by simp [Lib.bitLen, Lib.bitLenAux]]; unfold wrap64; omega)
theorem len64_fun : Eng.Fun Tryz.prog 251 [.t (.v (.int .u64 2))] (.t (.int 2)) :=
 Fun.plain (vs := [.int .u64 2]) (u := .int .i64 2) ⟨_, Tryz.func251, rfl, rfl⟩ bits_Len64 (fun w F => .t (.v rfl .nil) .done)
open Go.Eng
theorem mul_fun (n : Nat) (hn : n ≤ 1048576) : Fun Tryz.prog 223 [.t (.v (.int .u64 1)), .t (.v (.int .u64 n))] (tupD [.t (.v (.int .u64 0)), .t (.v (.int .u64 n))]) := by
 refine Fun.begin tys Tryz.func223 Z Z (N := 30) [(0, .t (.v (.int .u64 1))), (1, .t (.v (.int .u64 n)))] Z Z (fun w0 G F0 => ?_)
 refine sQ (rG (eK 2 Z (oN (tN (sQ (W_condF Z (W_skip (tN (sQ (rG (eK 2 Z (callB ?_))))))))))))
 refine ⟨_, mul64_fun n hn, rfl, ?_⟩
 refine eZ Z ?_
 first | refine WO_evF tys rfl rfl (lt_of rfl) (d := .t _) rfl ?_ | (refine WO_extract rfl rfl (lt_of rfl) rfl rfl rfl rfl ?_; first | refine WO_le (Le.adoptE (u := 26) 26 rfl (by first | exact lenN | exact rfl)) ?_ | skip)
 refine nZ Z ?_
 first | refine WO_evF tys rfl rfl (lt_of rfl) (d := .t _) rfl ?_ | (refine WO_extract rfl rfl (lt_of rfl) rfl rfl rfl rfl ?_; first | refine WO_le (Le.adoptE (u := 27) 27 rfl (by first | exact lenN | exact rfl)) ?_ | skip)
 refine nZ Z (eZ Z (kZ [4,5,8,27] Z (eZ Z (oN (tN (sQ (rG (eK 4 Z (oN (tN (rT (eR ?_))))))))))))
 ·rfl
theorem len_fun  : Fun Tryz.prog 235 [.t (.v (.int .u64 2))] (tupD [.t (.int 2)]) := by
 refine Fun.begin tys Tryz.func235 Z Z (N := 8) [(0, .t (.v (.int .u64 2)))] Z Z (fun w0 G F0 => ?_)
 refine sQ (rG (eZ Z (oN (tN (sQ (W_condF Z (W_skip (tN (sQ (rG (eZ Z (callB ?_))))))))))))
 refine ⟨_, len64_fun, rfl, ?_⟩
 refine eZ Z (oN (tN (rT (eR ?_))))
 ·rfl
theorem mulW_fun (v : Int) (n : Nat) (hn : n ≤ 1048576) : Fun Tryz.prog 223 [.t (.v (.int .u64 (IntKind.u64.wrap (([v] : List Int).length : Nat)))), .t (.v (.int .u64 (IntKind.u64.wrap n)))] (tupD [.t (.v (.int .u64 0)), .t (.v (.int .u64 n))]) := by
 rw [show IntKind.u64.wrap (n : Int) = n from by rw [IntKind.wrap_u64]; omega]
 exact mul_fun n hn
theorem rep_step {v k : Int} {n m : Nat} (h0 : 1 ≤ k) (h1 : k < n) (hm : m ≤ k.toNat ∧ m ≤ n - k.toNat) (hm0 : 0 < m) :
  ((List.replicate k.toNat v ++ List.replicate (n - k.toNat) 0).take (0 + k.toNat) ++ ((List.replicate k.toNat v ++ List.replicate (n - k.toNat) 0).drop (0 + (0 : Int).toNat)).take m ++ (List.replicate k.toNat v ++ List.replicate (n - k.toNat) 0).drop (0 + k.toNat + m)).map T.int = (List.replicate (k + (m : Int)).toNat v ++ List.replicate (n - (k + (m : Int)).toNat) 0).map T.int := by
 congr 1
 have e1 : (List.replicate k.toNat v ++ List.replicate (n - k.toNat) 0).take (0 + k.toNat) = List.replicate k.toNat v := by
  rw [Nat.zero_add, List.take_append_of_le_length (by simp), List.take_of_length_le (by simp)]
 have e2 : ((List.replicate k.toNat v ++ List.replicate (n - k.toNat) 0).drop (0 + (0 : Int).toNat)).take m = List.replicate m v := by
  show (List.replicate k.toNat v ++ List.replicate (n - k.toNat) 0).take m = _
  rw [List.take_append_of_le_length (by simp; omega), List.take_replicate]
  congr 1
  omega
 have e3 : (List.replicate k.toNat v ++ List.replicate (n - k.toNat) 0).drop (0 + k.toNat + m) = List.replicate (n - k.toNat - m) 0 := by
  rw [List.drop_append, List.drop_eq_nil_of_le (by simp), List.nil_append, List.drop_replicate, List.length_replicate]
  congr 1
  omega
 rw [e1, e2, e3, List.replicate_append_replicate, show (k + (m : Int)).toNat = k.toNat + m from by omega, show n - (k.toNat + m) = n - k.toNat - m from by omega]
theorem repeat_fun (v : Int) (n : Nat) (h1n : 1 ≤ n) (hn : n ≤ 1048576) : Fun Tryz.prog 194 [.t (T.ints [v]), .t (.int n)] (tupD [.own (T.ints (List.replicate n v))]) := by
  refine Fun.begin tys Tryz.func194 Z Z (N := 48) [(0, .t (T.ints [v])), (1, .t (.int n))] Z Z (fun w0 G F0 => ?_)
  refine sQ (rG (eZ Z (oN (tN (sQ (sQ (rG (eK 2 Z (oN (tN ?_))))))))))
  refine W_cond Z (fun h1 => ?_) (fun h1 => ?_)
  ·
    try simp only [HS] at h1
    exfalso; first | omega | (simp_all; done) | (simp_all; omega)
  try simp only [HS] at h1
  refine W_skip (tN (sQ (rG (eZ Z (evE ?_)))))
  refine WO_conv (td := .int .i64) (k := .u64) Z Z (lt_of Z) Z (by kernel_rfl) (by kernel_rfl) Z (eZ Z (WO_conv (td := .int .i64) (k := .u64) Z Z (lt_of Z) Z (by kernel_rfl) (by kernel_rfl) Z (callB ?_)))
  refine ⟨_, mulW_fun v n hn, rfl, ?_⟩
  refine kZ [0,4,18] Z (eZ Z ?_)
  first | refine WO_evF tys rfl rfl (lt_of rfl) (d := .t _) rfl ?_ | (refine WO_extract rfl rfl (lt_of rfl) rfl rfl rfl rfl ?_; first | refine WO_le (Le.adoptE (u := 19) 19 rfl (by first | exact lenN | exact rfl)) ?_ | skip)
  refine nZ Z ?_
  first | refine WO_evF tys rfl rfl (lt_of rfl) (d := .t _) rfl ?_ | (refine WO_extract rfl rfl (lt_of rfl) rfl rfl rfl rfl ?_; first | refine WO_le (Le.adoptE (u := 20) 20 rfl (by first | exact lenN | exact rfl)) ?_ | skip)
  refine nZ Z (eK 2 Z (oN (tN (sQ (sQ (rG (eZ Z (WO_gtrU Z Z (lt_of Z) Z Z Z (WO_le (Le.known (t := 22) false Z (by simp)) ?_)))))))))
  refine eZ Z (gY Z (eZ Z (kZ [0,4,6,23,24] Z (gY Z (WO_gtrU Z Z (lt_of Z) Z Z Z (WO_le (Le.known (t := 25) false Z (by simp; omega)) ?_))))))
  refine eZ Z (oN (tN (W_condF Z (W_skip (tN (sQ (rG (eZ Z (WO_conv (td := .int .u64) (k := .i64) Z Z (lt_of Z) Z (by kernel_rfl) (by kernel_rfl) Z ?_)))))))))
  have hw : (IntKind.i64.wrap (n : Int)).toNat = n := by rw [wrap_id (by omega) (by omega)]; omega
  refine WO_makeI tys (T.int 0) Z Z (lt_of Z) Z Z Z Z Z (by repeat (first | exact AbsL.nil' | refine AbsL.v' ?_ | refine AbsL.none' ?_)) Z (by rw [wrap_id (by omega) (by omega)]; omega) (by rw [wrap_id (by omega) (by omega)]; omega) (by decide) ?_
  refine WO_le (Le.eqF (u := 30) (d := .sl 30 0 (IntKind.i64.wrap (n : Int)).toNat) (e := .sl 30 0 n) Z (by rw [hw])) ?_
  refine WO_le (Le.eqK (id := 30) Z (k' := .L 1 ((List.replicate n (0 : Int)).map T.int)) (by
   show Blk.L _ (List.replicate (IntKind.i64.wrap (n : Int)).toNat (T.int 0)) = _
   rw [hw, List.map_replicate])) ?_
  refine nZ Z (nZ Z (eZ Z (oN (tN (sQ (rG (eK 2 Z (WO_copyI (e := 3) (us := List.replicate n 0) (zs := [v]) Z Z (lt_of Z) Z (by kernel_rfl) (by kernel_rfl) Z Z (by simp) Z (by simp; omega) ?_))))))))
  refine nZ Z (kZ [4,7,33] Z (eZ Z (oN (tN (sQ (W_block ?_))))))
  refine lK (α := Int × List T) [7] [] (fun x => [(8, .t (.int (x.1)))]) (fun x => [(30, .L 1 (x.2))]) (fun x => 1 ≤ (x.1) ∧ (x.1) ≤ n ∧ (x.2) = (List.replicate (x.1).toNat v ++ List.replicate (n - (x.1).toNat) 0).map T.int) (fun x => Int.toNat (n - (x.1))) (1, ([v] ++ (List.replicate n (0 : Int)).drop 1).map T.int) ?_ (fun x hx => ?_)
  · exact ⟨by omega, by omega, by simp⟩
  obtain ⟨k, xs⟩ := x
  obtain ⟨hk0, hk1, hxs⟩ := hx
  try dsimp only at hk0 hk1 hxs ⊢
  subst hxs
  refine nY Z (sQ (sQ (rG (eK 2 Z (evE ?_)))))
  refine eZ Z (oN (tN ?_))
  refine W_cond Z (fun h2 => ?_) (fun h2 => ?_)
  ·
    try simp only [HS] at h2
    refine W_skip (tN (W_block ?_))
    obtain ⟨m, hm⟩ : ∃ m, m = Nat.min (k.toNat - (0 : Int).toNat) ((n : Int).toNat - k.toNat) := ⟨_, rfl⟩
    have hm1 : m ≤ k.toNat ∧ m ≤ n - k.toNat := by rw [hm]; exact ⟨Nat.le_trans (Nat.min_le_left ..) (by omega), Nat.le_trans (Nat.min_le_right ..) (by omega)⟩
    have hm2 : 0 < m := by rw [hm]; exact Nat.lt_min.2 ⟨by omega, by omega⟩
    have hul : (List.replicate k.toNat v ++ List.replicate (n - k.toNat) 0).length = n := by rw [List.length_append, List.length_replicate, List.length_replicate]; omega
    refine W_regionH [[30], [], [], [], [], [], [], [], [], []] mixed (by kernel_rfl) (QH_G (QG_ev tys Z Z (lt_of Z) Z (QG_nil (QH_G0 (QG_ev tys Z Z (lt_of Z) Z (QG_nil (QH_G0 (QG_ev tys Z Z (lt_of Z) Z (QG_nil (QH_G0 ?_))))))))))
    first | refine WO_sliceNil tys rfl rfl (lt_of rfl) rfl rfl rfl rfl rfl rfl rfl ?_ | refine QG_sliceT tys rfl rfl (lt_of rfl) rfl rfl rfl rfl rfl rfl rfl rfl (by first | omega | (simp only [List.length_map]; omega)) (by first | omega | (simp only [List.length_map]; omega)) (by first | omega | (simp only [List.length_map]; omega)) ?_ | refine QG_sliceS tys rfl rfl (lt_of rfl) rfl rfl rfl rfl rfl rfl rfl rfl rfl (by omega) (by omega) (by omega) ?_
    refine QG_nil (QH_norm Z (QH_G0 (QG_ev tys Z Z (lt_of Z) Z (QG_nil (QH_G0 (QG_ev tys Z Z (lt_of Z) Z (QG_nil (QH_G0 ?_))))))))
    first | refine WO_sliceNil tys rfl rfl (lt_of rfl) rfl rfl rfl rfl rfl rfl rfl ?_ | refine QG_sliceT tys rfl rfl (lt_of rfl) rfl rfl rfl rfl rfl rfl rfl rfl (by first | omega | (simp only [List.length_map]; omega)) (by first | omega | (simp only [List.length_map]; omega)) (by first | omega | (simp only [List.length_map]; omega)) ?_ | refine QG_sliceS tys rfl rfl (lt_of rfl) rfl rfl rfl rfl rfl rfl rfl rfl rfl (by omega) (by omega) (by omega) ?_
    refine QG_nil (QH_copyS (m := m) (us := List.replicate k.toNat v ++ List.replicate (n - k.toNat) 0) (e := 3) Z Z (lt_of Z) Z (by kernel_rfl) (by kernel_rfl) Z Z Z (by rw [hul]; omega) (by rw [hul]; omega) (by rw [hm]) hm2 ?_)
    refine QH_norm Z (QH_G0 (QG_int tys Z Z (lt_of Z) Z (wrap_id (by omega) (by omega)) (QG_nil (QH_G0 (QG_ev tys Z Z (lt_of Z) Z (QG_nil (QH_nil ?_)))))))
    refine ⟨by kernel_rfl, ?_⟩
    refine nZ Z (oN (bN ?_))
    refine lQ (_, _) ?_ ?_
    · try dsimp only
      refine ⟨by omega, by omega, ?_⟩
      rw [rep_step (v := v) hk0 (by omega) hm1 hm2]
    · (show Int.toNat _ < Int.toNat _); omega
  try simp only [HS] at h2
  refine W_exit (tE (loopQ_e (inBlk_y (tN (sQ (rG (eK 2 Z (oN (tN (W_le (Le.gather (u := 4) (id := 30) Z Z (by simp; omega)) ?_))))))))))
  refine rT (eR ?_)
  · (rw [show k.toNat = n from by omega, Nat.sub_self, List.replicate_zero, List.append_nil, List.take_of_length_le (by simp)]; rfl)
theorem isNaN_fun (a : Int) : Fun Tryz.prog 262 [.t (.int a)] (tupD [.t (.bool false)]) := by
 refine Fun.begin tys Tryz.func262 Z Z (N := 6) [(0, .t (.int a))] Z Z (fun w0 G F0 => ?_)
 refine sQ (rG (eZ Z (oN (tN (sQ (rG (eK 4 Z (oN (tN (rT (eR ?_)))))))))))
 ·exact retB (by simp)
theorem less_fun (a b : Int) : Fun Tryz.prog 247 [.t (.int a), .t (.int b)] (tupD [.t (.bool (decide (a < b)))]) := by
 refine Fun.begin tys Tryz.func247 Z Z (N := 17) [(0, .t (.int a)), (1, .t (.int b))] Z Z (fun w0 G F0 => ?_)
 refine sQ (rG (eZ Z (oN (tN (sQ (rG (eZ Z (callB ?_))))))))
 refine ⟨_, isNaN_fun _, rfl, ?_⟩
 refine WO_le (Le.known (t := 6) false Z (rfl)) (eZ Z (gM Z (gM Z (gM Z (eK 2 Z (kZ [0,1,4,12] Z (gY Z (eZ Z (gY Z (eZ Z (gY Z (eK 3 Z (oN (tN (rT ?_)))))))))))))))
 refine eR ?_
 ·exact retB (by simp_all)
def lo2 (u v : Int) : Int := if v < u then v else u
def hi2 (u v : Int) : Int := if v < u then u else v
theorem ins2_fun (b cap : Nat) (u v : Int) (hcap : 2 ≤ cap) : Proc Tryz.prog 241 [.t (.v (.slice (some ⟨b, 0, none⟩) 2 cap)), .t (.int 0), .t (.int 2)] ([]) ([]) [.raw b (cap * 1) [.int .i64 u, .int .i64 v] [T.int u, T.int v]] (.tup []) [.raw b (cap * 1) [.int .i64 (lo2 u v), .int .i64 (hi2 u v)] [T.int (lo2 u v), T.int (hi2 u v)]] := by
 refine Proc.intro tys Tryz.func241 Z Z (N := 49) [100] 99 ([(0, .t (.v (.slice (some ⟨b, 0, none⟩) 2 cap))), (1, .t (.int 0)), (2, .t (.int 2))]) ([(100, .raw b (cap * 1) [.int .i64 u, .int .i64 v] [T.int u, T.int v]), (99, .ro [] [])]) Z Z Z Z (by decide) (by decide) Z (fun w0 G F0 => ?_)
 refine nY Z (sQ (rG (eZ Z (evI ?_))))
 refine eZ Z (oN (tN (W_block ?_)))
 refine lK (α := Int × Int × Int) [0, 1, 2] [99] (fun x => [(6, .t (.int (x.1)))]) (fun x => [(100, .raw b (cap * 1) [.int .i64 (x.2.1), .int .i64 (x.2.2)] [T.int (x.2.1), T.int (x.2.2)])]) (fun x => ((x.1) = 1 ∧ (x.2.1) = u ∧ (x.2.2) = v) ∨ ((x.1) = 2 ∧ (x.2.1) = lo2 u v ∧ (x.2.2) = hi2 u v)) (fun x => Int.toNat (2 - (x.1))) (1, u, v) ?_ (fun x hx => ?_)
 ·exact .inl ⟨rfl, rfl, rfl⟩
 obtain ⟨i, p, q⟩ := x
 have hi := hx
 try dsimp only at hi ⊢
 refine nY Z (sQ (sQ (rG (eK 3 Z (oN (tN ?_))))))
 refine W_cond Z (fun h1 => ?_) (fun h1 => ?_)
 ·
  try simp only [HS] at h1
  refine W_skip (tN (sQ (W_block (sQ (rG (eK 2 Z (oN (tN (W_block ?_)))))))))
  refine lK (α := Int × Int × Int) [0, 1, 2, 6] [99] (fun x => [(7, .t (.int (x.1)))]) (fun x => [(100, .raw b (cap * 1) [.int .i64 (x.2.1), .int .i64 (x.2.2)] [T.int (x.2.1), T.int (x.2.2)])]) (fun x => ((x.1) = 1 ∧ (x.2.1) = u ∧ (x.2.2) = v) ∨ ((x.1) = 0 ∧ (x.2.1) = v ∧ (x.2.2) = u ∧ v < u)) (fun x => Int.toNat ((x.1))) (i, p, q) ?_ (fun x hx => ?_)
  ·exact .inl ⟨by omega, by omega, by omega⟩
  obtain ⟨j, p2, q2⟩ := x
  have hj := hx
  try dsimp only at hj ⊢
  refine nY Z (sQ (sQ (W_regionD mixed (by kernel_rfl) (evQ ?_))))
  refine evQ ?_
  refine evQ ?_
  refine evQ ?_
  refine QL_split (fun h2 => ?_) (fun h2 => ?_)
  ·
   try simp only [HS] at h2
   refine QL_guardY Z Z Z Z (lt_of Z) ?_
   have hj1 : j = 1 := by omega
   subst hj1
   refine evQ ?_
   refine QL_guardY Z Z Z Z (lt_of Z) (evQ ?_)
   refine QL_norm Z (QL_guardY Z Z Z Z (lt_of Z) (QL_idxV tys Z Z (lt_of Z) Z Z Z Z Z Z (by omega) (by omega) (QL_guardY Z Z Z Z (lt_of Z) (QL_loadU (id := 100) tys Z Z (lt_of Z) Z Z Z Z Z Z Z (QL_guardY Z Z Z Z (lt_of Z) (evQ ?_))))))
   refine QL_guardY Z Z Z Z (lt_of Z) (evQ ?_)
   refine QL_guardY Z Z Z Z (lt_of Z) (evIQ ?_)
   refine QL_guardY Z Z Z Z (lt_of Z) (QL_idxV tys Z Z (lt_of Z) Z Z Z Z Z Z (by omega) (by omega) (QL_norm Z (QL_guardY Z Z Z Z (lt_of Z) (QL_loadU (id := 100) tys Z Z (lt_of Z) Z Z Z Z Z Z Z (QL_guardY Z Z Z Z (lt_of Z) (callBQ ?_))))))
   refine ⟨_, less_fun _ _, rfl, ?_⟩
   refine evQ ?_
   refine QL_nil (tN ?_)
   refine W_cond Z (fun h3 => ?_) (fun h3 => ?_)
   ·
    try simp only [HS] at h3
    refine W_skip (tN (sQ (W_block (W_regionH [[], [], [100], [100], [100], [], [], [], [], [], [], [], [], [], [], [], [], []] mixed (by kernel_rfl) (QH_G0 (QG_ev tys Z Z (lt_of Z) Z (QG_nil (QH_G0 (QG_ev tys Z Z (lt_of Z) Z (QG_nil (QH_G (QG_ev tys Z Z (lt_of Z) Z (QG_nil (QH_G (QG_ev tys Z Z (lt_of Z) Z ?_)))))))))))))))
    refine QG_nil (QH_norm Z (QH_G (QG_int tys Z Z (lt_of Z) Z (wrap_id (by omega) (by omega)) (QG_nil (QH_G0 (QG_ev tys Z Z (lt_of Z) Z (QG_nil (QH_G0 (QG_ev tys Z Z (lt_of Z) Z (QG_nil (QH_G0 (QG_int tys Z Z (lt_of Z) Z (wrap_id (by omega) (by omega)) (QG_nil (QH_norm Z ?_))))))))))))))
    first | refine QH_G ?_ | refine QH_G0 ?_
    refine QG_idxV tys Z Z (lt_of Z) Z Z Z Z Z Z (by omega) (by omega) (QG_nil ?_)
    first | refine QH_G ?_ | refine QH_G0 ?_
    refine QG_loadU (id := 100) tys Z Z (lt_of Z) Z Z Z Z Z Z Z (QG_nil (QH_G0 (QG_ev tys Z Z (lt_of Z) Z (QG_nil (QH_G0 (QG_ev tys Z Z (lt_of Z) Z (QG_nil (QH_norm Z ?_))))))))
    first | refine QH_G ?_ | refine QH_G0 ?_
    refine QG_idxV tys Z Z (lt_of Z) Z Z Z Z Z Z (by omega) (by omega) (QG_nil ?_)
    first | refine QH_G ?_ | refine QH_G0 ?_
    refine QG_loadU (id := 100) tys Z Z (lt_of Z) Z Z Z Z Z Z Z (QG_nil ?_)
    first | refine QH_G ?_ | refine QH_G0 ?_
    refine QG_idxV tys Z Z (lt_of Z) Z Z Z Z Z Z (by omega) (by omega) (QG_nil (QH_storeU (id := 100) tys 10047 Z Z Z Z Z Z Z Z Z Z Z (QH_norm Z ?_)))
    first | refine QH_G ?_ | refine QH_G0 ?_
    refine QG_idxV tys Z Z (lt_of Z) Z Z Z Z Z Z (by omega) (by omega) (QG_nil (QH_storeU (id := 100) tys 10048 Z Z Z Z Z Z Z Z Z Z Z (QH_nil ?_)))
    refine ⟨by kernel_rfl, ?_⟩
    refine nZ Z (oN (bN (tN (rG (eZ Z (evI ?_))))))
    refine eZ Z (oN ?_)
    refine lQ (_, _, _) ?_ ?_
    ·try dsimp only
     exact .inr ⟨by omega, by omega, by omega, by omega⟩
    ·(show Int.toNat _ < Int.toNat _); omega
   try simp only [HS] at h3
   refine W_exit (tE (loopQ_e (inBlk_y (bN (tN (rG (eZ Z (evI ?_))))))))
   refine eZ Z (oN ?_)
   refine lQ (_, _, _) ?_ ?_
   ·try dsimp only
    refine .inr ⟨by omega, ?_, ?_⟩
    ·unfold lo2; split <;> omega
    ·unfold hi2; split <;> omega
   ·(show Int.toNat _ < Int.toNat _); omega
  try simp only [HS] at h2
  iterate 10 (refine QL_guardN rfl rfl rfl rfl rfl (lt_of rfl) ?_)
  refine evQ ?_
  refine QL_nil (tN (W_condF Z (W_exit (tE (loopQ_e (inBlk_y (bN (tN (rG (eZ Z (evI ?_)))))))))))
  refine eZ Z (oN ?_)
  refine lQ (_, _, _) ?_ ?_
  ·try dsimp only
   refine .inr ⟨by omega, ?_, ?_⟩
   ·unfold lo2; split <;> omega
   ·unfold hi2; split <;> omega
  ·(show Int.toNat _ < Int.toNat _); omega
 try simp only [HS] at h1
 refine W_exit (tE (loopQ_e (inBlk_y ?_)))
 refine EndsP_of (ks := [_]) (.inl Z) (ret_okF Z) (by decide) Z (noR_spec Z) (by repeat (first | exact trivial | refine ⟨rfl, rfl, ?_⟩)) ?_ ?_
 ·rfl
 ·obtain ⟨h6, h7⟩ : p = lo2 u v ∧ q = hi2 u v := by rcases hi with hi | hi; exact absurd hi.1 (by omega); exact hi.2
  rw [h6, h7]
theorem pdq2_fun (b cap : Nat) (u v lim : Int) (hcap : 2 ≤ cap) : Proc Tryz.prog 234 [.t (.v (.slice (some ⟨b, 0, none⟩) 2 cap)), .t (.int 0), .t (.int 2), .t (.int lim)] ([]) ([]) [.raw b (cap * 1) [.int .i64 u, .int .i64 v] [T.int u, T.int v]] (.tup []) [.raw b (cap * 1) [.int .i64 (lo2 u v), .int .i64 (hi2 u v)] [T.int (lo2 u v), T.int (hi2 u v)]] := by
 refine Proc.intro tys Tryz.func234 Z Z (N := 134) [100] 99 ([(0, .t (.v (.slice (some ⟨b, 0, none⟩) 2 cap))), (1, .t (.int 0)), (2, .t (.int 2)), (3, .t (.int lim))]) ([(100, .raw b (cap * 1) [.int .i64 u, .int .i64 v] [T.int u, T.int v]), (99, .ro [] [])]) Z Z Z Z (by decide) (by decide) Z (fun w0 G F0 => ?_)
 refine nY Z (sQ (rG (eZ Z (oN (tN (sQ (rG (eZ Z (oN (tN (W_block ?_)))))))))))
 refine lK (α := Int) [0, 1, 2, 3] [99, 100] (fun x => []) (fun x => []) (fun x => x = 0) (fun x => Int.toNat (x)) 0 ?_ (fun k hx => ?_)
 ·rfl
 have hk := hx
 refine nY Z (W_block (sQ (rG (eK 2 Z (evI ?_)))))
 refine eZ Z (oN (tN (sQ (sQ (rG (eK 2 Z (WO_le (Le.known (t := 23) true Z (by simp)) ?_)))))))
 refine oN (tN (W_condT Z (sQ (rG (eK 3 Z (kZ [0,1,2,3,10,19,20,21,22,23,24,25,26] Z ?_))))))
 refine WO_callP (rid := 99) [100] Z Z (lt_of Z) Z Z (by repeat (first | exact ResP.done | refine ResP.pin0 1100 Z ?_ | refine ResP.t ?_ | refine ResP.nil 1 ?_ | refine ResP.nil' ?_ | refine ResP.own ?_ | refine ResP.sl Z Z (by first | omega | (simp; omega)) ?_ | refine ResP.aggT (by repeat (first | exact ResP.done | refine ResP.t ?_)) ?_)) Z (by repeat (first | exact trivial | refine ⟨rfl, rfl, ?_⟩)) (by decide) (ins2_fun b cap u v hcap) Z Z Z ?_
 refine nZ Z (oN (tN (rT (tR (bR (loopQ_r (bR ?_)))))))
 refine EndsP_of (ks := [_]) (.inr Z) (ret_okF Z) (by decide) Z (noR_spec Z) (by repeat (first | exact trivial | refine ⟨rfl, rfl, ?_⟩)) ?_ ?_
 ·rfl
 ·rfl
theorem sort2_fun (b cap : Nat) (u v : Int) (hcap : 2 ≤ cap) : Proc Tryz.prog 221 [.t (.v (.slice (some ⟨b, 0, none⟩) 2 cap))] ([]) ([]) [.raw b (cap * 1) [.int .i64 u, .int .i64 v] [T.int u, T.int v]] (.tup []) [.raw b (cap * 1) [.int .i64 (lo2 u v), .int .i64 (hi2 u v)] [T.int (lo2 u v), T.int (hi2 u v)]] := by
 refine Proc.intro tys Tryz.func221 Z Z (N := 11) [100] 99 ([(0, .t (.v (.slice (some ⟨b, 0, none⟩) 2 cap)))]) ([(100, .raw b (cap * 1) [.int .i64 u, .int .i64 v] [T.int u, T.int v]), (99, .ro [] [])]) Z Z Z Z (by decide) (by decide) Z (fun w0 G F0 => ?_)
 refine nY Z (sQ (rG (eZ Z (WO_lenV Z Z (lt_of Z) Z ⟨3, by kernel_rfl⟩ rfl (eZ Z (oN (tN (rG (eK 3 Z (WO_conv (td := .int .i64) (k := .u64) Z Z (lt_of Z) Z (by kernel_rfl) (by kernel_rfl) Z (callB ?_)))))))))))
 refine ⟨_, len_fun, rfl, ?_⟩
 refine WO_callP (rid := 99) [100] Z Z (lt_of Z) Z Z (by repeat (first | exact ResP.done | refine ResP.pin0 1100 Z ?_ | refine ResP.t ?_ | refine ResP.nil 1 ?_ | refine ResP.nil' ?_ | refine ResP.own ?_ | refine ResP.sl Z Z (by first | omega | (simp; omega)) ?_ | refine ResP.aggT (by repeat (first | exact ResP.done | refine ResP.t ?_)) ?_)) Z (by repeat (first | exact trivial | refine ⟨rfl, rfl, ?_⟩)) (by decide) (pdq2_fun b cap u v 2 hcap) Z Z Z ?_
 refine nZ Z (kZ [] Z (oN ?_))
 refine EndsP_of (ks := [_]) (.inl Z) (ret_okF Z) (by decide) Z (noR_spec Z) (by repeat (first | exact trivial | refine ⟨rfl, rfl, ?_⟩)) ?_ ?_
 ·rfl
 ·rfl
def cu2 (u v : Int) : List Int := if u = v then [u] else [u, v]
theorem comp2_fun (b cap : Nat) (u v : Int) (hcap : 2 ≤ cap) : Proc Tryz.prog 222 [.t (.v (.slice (some ⟨b, 0, none⟩) 2 cap))] ([]) ([]) [.raw b (cap * 1) [.int .i64 u, .int .i64 v] [T.int u, T.int v]] (.t (.v (.slice (some ⟨b, 0, none⟩) (cu2 u v).length cap))) [.raw b (cap * 1) ((cu2 u v).map (Value.int .i64)) ((cu2 u v).map T.int)] := by
  refine Proc.intro tys Tryz.func222 Z Z (N := 61) [100] 99 ([(0, .t (.v (.slice (some ⟨b, 0, none⟩) 2 cap)))]) ([(100, .raw b (cap * 1) [.int .i64 u, .int .i64 v] [T.int u, T.int v]), (99, .ro [] [])]) Z Z Z Z (by decide) (by decide) Z (fun w0 G F0 => ?_)
  refine nY Z (sQ (rG (eZ Z (oN (tN (sQ (sQ (rG (eZ Z (WO_lenV Z Z (lt_of Z) Z ⟨3, by kernel_rfl⟩ rfl (eZ Z (WO_le (Le.known (t := 8) false Z (by simp)) ?_))))))))))))
  refine oN (tN (W_condF Z (W_skip (tN (sQ (sQ (rG (eZ Z (oN (tN (W_block ?_)))))))))))
  refine lK (α := Int) [0] [99, 100] (fun x => [(3, .t (.int x))]) (fun x => []) (fun x => x = 1 ∨ (x = 2 ∧ u ≠ v)) (fun x => Int.toNat (2 - x)) 1 ?_ (fun k hx => ?_)
  · exact .inl rfl
  have hk := hx
  refine nY Z (sQ (sQ (rG (eK 2 Z (WO_lenV Z Z (lt_of Z) Z ⟨3, by kernel_rfl⟩ rfl (eZ Z (oN (tN ?_))))))))
  refine W_cond Z (fun h1 => ?_) (fun h1 => ?_)
  ·
    try simp only [HS] at h1
    refine W_skip (tN (sQ (W_block (sQ ?_))))
    have hk1 : k = 1 := by omega
    subst hk1
    refine W_regionD mixed (by kernel_rfl) (evQ ?_)
    refine evQ ?_
    refine QL_norm Z (QL_idxV tys Z Z (lt_of Z) Z Z Z Z Z Z (by omega) (by omega) (QL_loadU (id := 100) tys Z Z (lt_of Z) Z Z Z Z Z Z Z (evQ ?_)))
    refine evQ ?_
    refine evIQ ?_
    refine QL_idxV tys Z Z (lt_of Z) Z Z Z Z Z Z (by omega) (by omega) (QL_norm Z (QL_loadU (id := 100) tys Z Z (lt_of Z) Z Z Z Z Z Z Z (evQ ?_)))
    refine QL_nil (tN ?_)
    refine W_cond Z (fun h2 => ?_) (fun h2 => ?_)
    ·
      try simp only [HS] at h2
      refine sQ (rG (eK 2 Z (WO_sliceV tys Z Z (lt_of Z) Z Z Z Z Z Z Z Z (by omega) (by omega) (by omega) (by omega) (eZ Z (oN (tN (sQ (sQ (rG (eZ Z (oN (tN (W_block ?_)))))))))))))
      refine lK (α := Int) [0, 3, 4] [99, 100] (fun x => [(5, .t (.int x))]) (fun x => []) (fun x => x = 1) (fun x => Int.toNat (2 - x)) 1 ?_ (fun j hx => ?_)
      · rfl
      have hj := hx
      refine nY Z (sQ (sQ (rG (eK 2 Z (WO_lenV Z Z (lt_of Z) Z ⟨3, by kernel_rfl⟩ rfl (eZ Z (WO_le (Le.known (t := 32) false Z (by subst hj; decide)) ?_)))))))
      refine oN (tN (W_condF Z (W_exit (tE (loopQ_e (inBlk_y (tN (sQ (rG (eK 2 Z (WO_sliceV tys Z Z (lt_of Z) Z Z Z Z Z Z Z Z (by omega) (by omega) (by omega) (by omega) (nZ Z (WO_le (Le.rawCut (id := 100) 1 Z) (nZ Z (WO_clearV tys (t := 56) (id := 100) (off := 1) (m := 1) Z (.inr Z) (lt_of Z) Z Z Z Z Z Z Z Z Z (by simp) (by omega) ?_)))))))))))))))
      refine nZ Z (oN (tN (sQ (kY [0,3,4,5,29,30,31,32,54,55,56] Z (rG (eK 2 Z (WO_sliceV tys Z Z (lt_of Z) Z Z Z Z Z Z Z Z (by omega) (by omega) (by omega) (by omega) (eZ Z (oN (tN (rT (bR (tR (loopQ_r (bR ?_)))))))))))))))
      refine tR ?_
      refine EndsP_of (ks := [_]) (.inr Z) (ret_okF Z) (by decide) Z (noR_spec Z) (by repeat (first | exact trivial | refine ⟨rfl, rfl, ?_⟩)) ?_ ?_
      · first
        | (have h6 : cu2 u v = [u, v] := (by unfold cu2; rw [if_neg (by omega)])
           rw [h6]; rfl)
        | (have h6 : cu2 u v = [u] := (by unfold cu2; rw [if_pos (by omega)])
           rw [h6]; simp [cutA, tupD])
      · first
        | (have h6 : cu2 u v = [u, v] := (by unfold cu2; rw [if_neg (by omega)])
           rw [h6]; rfl)
        | (have h6 : cu2 u v = [u] := (by unfold cu2; rw [if_pos (by omega)])
           rw [h6]; rfl)
    try simp only [HS] at h2
    refine W_skip (bN (tN (rG (eZ Z (evI ?_)))))
    refine eZ Z (oN ?_)
    refine lQ _ ?_ ?_
    · try dsimp only
      exact .inr ⟨by omega, fun e => by omega⟩
    · (show Int.toNat _ < Int.toNat _); omega
  try simp only [HS] at h1
  refine W_exit (tE (loopQ_e (inBlk_y (tN (sQ (rG (eK 2 Z (oN (tN (rT ?_))))))))))
  refine EndsP_of (ks := [_]) (.inr Z) (ret_okF Z) (by decide) Z (noR_spec Z) (by repeat (first | exact trivial | refine ⟨rfl, rfl, ?_⟩)) ?_ ?_
  · first
    | (have h6 : cu2 u v = [u, v] := (by unfold cu2; rw [if_neg (by omega)])
       rw [h6]; rfl)
    | (have h6 : cu2 u v = [u] := (by unfold cu2; rw [if_pos (by omega)])
       rw [h6]; simp [cutA, tupD])
  · first
    | (have h6 : cu2 u v = [u, v] := (by unfold cu2; rw [if_neg (by omega)])
       rw [h6]; rfl)
    | (have h6 : cu2 u v = [u] := (by unfold cu2; rw [if_pos (by omega)])
       rw [h6]; rfl)
open Go.Eng
theorem cu2_len (u v : Int) : (cu2 u v).length ≤ 2 := by unfold cu2; split <;> simp
theorem cu2_next (a n : Int) : cu2 (lo2 a n) (hi2 a n) = if a < n then [a, n] else if a = n then [a] else [n, a] := by
 grind [cu2, lo2, hi2]
theorem flat_ints (l : List Int) : (l.map T.int).flatMap T.cells = l.map T.int := by
 induction l with
 | nil => rfl
 | cons a l ih => rw [List.map_cons, List.flatMap_cons, ih]; rfl
theorem nextOf_fun (i : Ins) (k : Int) (hk : 0 ≤ k ∧ k ≤ 1048576) : Fun Tryz.prog 192 [.t i.tt, .t (.int k)] (tupD [.t (T.ints (nextX i k))]) := by
  refine Fun.begin tys Tryz.func192 Z Z (N := 32) [(0, .t i.tt), (1, .t (.int k))] Z Z (fun w0 G F0 => ?_)
  refine sQ (rG (WO_box Z Z (lt_of Z) Z Z (nZ Z (eZ Z (oN (tN (sQ (sQ (rG (eK 2 Z (oN (tN (W_block (sQ (rG ?_)))))))))))))))
  refine eK 2 Z (oN (tN ?_))
  refine W_cond Z (fun h1 => ?_) (fun h1 => ?_)
  ·
    try simp only [HS] at h1
    refine sQ (rG (eK 2 Z ?_))
    refine WO_buildF tys [_] Z Z (lt_of Z) Z Z Z Z Z (by decide) (by repeat (first | exact PartsF.nil' | refine PartsF.cons' rfl Z ?_)) Z ?_
    refine nZ Z (kZ [1,4,12] Z (eZ Z (oN (tN ?_))))
    try (refine W_le (Le.nilT (u := 4) 1 rfl) ?_; refine W_norm rfl ?_)
    refine rT (bR (tR (eR ?_)))
    · first
      | exact retTX (a := [i.n]) (by rw [nextX, if_pos (by assumption)])
      | (rw [List.take_of_length_le (by simp)]; exact retTX (a := cu2 (lo2 (k + 1) i.n) (hi2 (k + 1) i.n)) (by rw [cu2_next]; unfold nextX; rw [if_neg h1, if_pos h2]))
      | exact retTX (a := []) (by grind [nextX])
      | exact retTX (a := [k + 1]) (by grind [nextX])
  try simp only [HS] at h1
  refine sQ (rG (eK 2 Z (oN (tN ?_))))
  refine W_cond Z (fun h2 => ?_) (fun h2 => ?_)
  ·
    try simp only [HS] at h2
    refine sQ (kY [1,2,4] Z (rG (eZ Z (evI ?_))))
    refine eK 2 Z ?_
    refine WO_buildSlice tys [T.int (k + 1), T.int i.n] Z Z (lt_of Z) Z Z Z Z Z (lt_of Z) (by repeat (first | exact PartsOk.nil' | refine PartsOk.cons' rfl (by repeat (first | exact AbsL.nil' | refine AbsL.v' ?_ | refine AbsL.own' ?_ | refine AbsL.none' ?_)) Z ?_)) (by first | exact List.nodup_nil | exact nodup1 _ | decide | exact nodupB_sound Z) Z (by decide) ?_
    refine nZ Z (eZ Z (oN (tN (sQ (rG (nZ Z (WO_le (Le.gather (u := 5) (id := 19) Z Z (by simp)) ?_)))))))
    refine nZ Z ?_
    refine WO_exposeS (u := 5) 105 Z (fun v5 => ?_)
    refine nZ Z ?_
    refine WO_explode (id := 105) (j := 0) (id2 := 100) (n := 1) (u := v5) (xs := [T.int (k + 1), T.int i.n]) Z Z Z Z Z (fun e ad b cap ws hu hb he hlc hcm hcn => ?_)
    have he0 : e = false := by cases e with | false => rfl | true => exact absurd (he rfl) (by simp)
    subst he0
    obtain rfl : ad = some ⟨b, 0, none⟩ := hb rfl
    subst hu
    have hcap : 2 ≤ cap := hlc
    refine nZ Z ?_
    refine WO_ownLen 100 Z Z (fun hwl => ?_)
    obtain ⟨w0', w1', rfl⟩ : ∃ w0' w1', ws = [w0', w1'] := by
     match ws, hwl with
     | [w0', w1'], _ => exact ⟨_, _, rfl⟩
    refine WO_told 100 0 Z Z (x := .int .i64 (k + 1)) Z Z (fun hw0 => ?_)
    refine WO_told 100 1 Z Z (x := .int .i64 i.n) Z Z (fun hw1 => ?_)
    subst hw0 hw1
    refine WO_le (Le.roNil 99) (nZ Z (eZ Z ?_))
    refine WO_callP (rid := 99) [100] Z Z (lt_of Z) Z Z (by repeat (first | exact ResP.done | refine ResP.pin0 1100 Z ?_ | refine ResP.t ?_ | refine ResP.nil 1 ?_ | refine ResP.nil' ?_ | refine ResP.own ?_ | refine ResP.sl Z Z (by first | omega | (simp; omega)) ?_ | refine ResP.aggT (by repeat (first | exact ResP.done | refine ResP.t ?_)) ?_)) Z (by repeat (first | exact trivial | refine ⟨rfl, rfl, ?_⟩)) (by decide) (sort2_fun b cap (k + 1) i.n hcap) Z Z Z ?_
    refine nZ Z (oN (tN (sQ (kY [1,4,5] Z (rG (eZ Z ?_))))))
    refine WO_callP (rid := 99) [100] Z Z (lt_of Z) Z Z (by repeat (first | exact ResP.done | refine ResP.pin0 1100 Z ?_ | refine ResP.t ?_ | refine ResP.nil 1 ?_ | refine ResP.nil' ?_ | refine ResP.own ?_ | refine ResP.sl Z Z (by first | omega | (simp; omega)) ?_ | refine ResP.aggT (by repeat (first | exact ResP.done | refine ResP.t ?_)) ?_)) Z (by repeat (first | exact trivial | refine ⟨rfl, rfl, ?_⟩)) (by decide) (comp2_fun b cap (lo2 (k + 1) i.n) (hi2 (k + 1) i.n) hcap) Z Z Z ?_
    refine nZ Z (eZ Z (nZ Z (WO_le (Le.eqK (id := 100) Z (k' := .raw b (cap * 1) ((cu2 (lo2 (k + 1) i.n) (hi2 (k + 1) i.n)).map (Value.int .i64)) (((cu2 (lo2 (k + 1) i.n) (hi2 (k + 1) i.n)).map T.int).flatMap T.cells)) (by rw [flat_ints])) ?_)))
    refine nZ Z ?_
    have hcl := cu2_len (lo2 (k + 1) i.n) (hi2 (k + 1) i.n)
    refine WO_le (Le.rawListO (id := 100) (n := 1) (cap := cap) (ys := (cu2 (lo2 (k + 1) i.n) (hi2 (k + 1) i.n)).map T.int) 1100 rfl rfl rfl rfl (by intro y hy; obtain ⟨z, _, rfl⟩ := List.mem_map.1 hy; rfl) (by rw [List.length_map]; omega) hcm) ?_
    refine nZ Z (WO_le (Le.namedS (t := 4) 1100 Z Z (by omega)) (nZ Z (WO_le (Le.gather (u := 4) (id := 100) Z Z (by simp)) ?_)))
    refine nZ Z (WO_le (Le.freeze (u := 4) Z) (nZ Z (oN (tN ?_))))
    try (refine W_le (Le.nilT (u := 4) 1 rfl) ?_; refine W_norm rfl ?_)
    refine rT (bR (tR (eR ?_)))
    · first
      | exact retTX (a := [i.n]) (by rw [nextX, if_pos (by assumption)])
      | (rw [List.take_of_length_le (by simp)]; exact retTX (a := cu2 (lo2 (k + 1) i.n) (hi2 (k + 1) i.n)) (by rw [cu2_next]; unfold nextX; rw [if_neg h1, if_pos h2]))
      | exact retTX (a := []) (by grind [nextX])
      | exact retTX (a := [k + 1]) (by grind [nextX])
  try simp only [HS] at h2
  refine sQ (sQ (kY [1,4,7] Z (rG (eK 2 Z (oN (tN ?_))))))
  refine W_joinN (α := Bool) [1, 4] [2] (fun x => [(24, .t (.bool x))]) (fun x => []) (fun x => x = decide (i.op = 13 ∨ i.op = 14 ∨ i.op = 16 ∨ i.op = 18)) ?_ (fun b hx => ?_)
  ·
    refine W_cond Z (fun h3 => ?_) (fun h3 => ?_)
    ·
      try simp only [HS] at h3
      refine W_skip ?_
      refine joinQ_n _ (by (try dsimp only); repeat (first | exact Sub.nil' | refine Sub.cons' rfl ?_)) (by (try dsimp only); repeat (first | exact SubM.nil' | refine SubM.cons' rfl ?_)) ?_
      try dsimp only
      grind
    try simp only [HS] at h3
    refine sQ (rG (eK 2 Z (oN (tN ?_))))
    refine W_cond Z (fun h4 => ?_) (fun h4 => ?_)
    ·
      try simp only [HS] at h4
      refine W_skip ?_
      refine joinQ_n _ (by (try dsimp only); repeat (first | exact Sub.nil' | refine Sub.cons' rfl ?_)) (by (try dsimp only); repeat (first | exact SubM.nil' | refine SubM.cons' rfl ?_)) ?_
      try dsimp only
      grind
    try simp only [HS] at h4
    refine sQ (rG (eK 2 Z (oN (tN ?_))))
    refine W_cond Z (fun h5 => ?_) (fun h5 => ?_)
    ·
      try simp only [HS] at h5
      refine W_skip ?_
      refine joinQ_n _ (by (try dsimp only); repeat (first | exact Sub.nil' | refine Sub.cons' rfl ?_)) (by (try dsimp only); repeat (first | exact SubM.nil' | refine SubM.cons' rfl ?_)) ?_
      try dsimp only
      grind
    try simp only [HS] at h5
    refine rG (eK 2 Z (oN ?_))
    refine joinQ_n _ (by (try dsimp only); repeat (first | exact Sub.nil' | refine Sub.cons' rfl ?_)) (by (try dsimp only); repeat (first | exact SubM.nil' | refine SubM.cons' rfl ?_)) ?_
    try dsimp only
    grind
  have hb := hx
  refine tN ?_
  refine W_cond Z (fun h3 => ?_) (fun h3 => ?_)
  ·
    try simp only [HS] at h3
    refine sQ (kY [1,4] Z (rG (eZ Z (oN (tN ?_)))))
    try (refine W_le (Le.nilT (u := 4) 1 rfl) ?_; refine W_norm rfl ?_)
    refine rT (bR (tR (eR ?_)))
    · first
      | exact retTX (a := [i.n]) (by rw [nextX, if_pos (by assumption)])
      | (rw [List.take_of_length_le (by simp)]; exact retTX (a := cu2 (lo2 (k + 1) i.n) (hi2 (k + 1) i.n)) (by rw [cu2_next]; unfold nextX; rw [if_neg h1, if_pos h2]))
      | exact retTX (a := []) (by grind [nextX])
      | exact retTX (a := [k + 1]) (by grind [nextX])
  try simp only [HS] at h3
  refine W_skip (bN (tN (sQ (kY [1,4] Z (rG (eZ Z (evI ?_)))))))
  refine WO_buildF tys [_] Z Z (lt_of Z) Z Z Z Z Z (by decide) (by repeat (first | exact PartsF.nil' | refine PartsF.cons' rfl Z ?_)) Z ?_
  refine nZ Z (eZ Z (oN (tN ?_)))
  try (refine W_le (Le.nilT (u := 4) 1 rfl) ?_; refine W_norm rfl ?_)
  refine rT (eR ?_)
  · first
    | exact retTX (a := [i.n]) (by rw [nextX, if_pos (by assumption)])
    | (rw [List.take_of_length_le (by simp)]; exact retTX (a := cu2 (lo2 (k + 1) i.n) (hi2 (k + 1) i.n)) (by rw [cu2_next]; unfold nextX; rw [if_neg h1, if_pos h2]))
    | exact retTX (a := []) (by grind [nextX])
    | exact retTX (a := [k + 1]) (by grind [nextX])
theorem goesOn1_fun (n : Int) (l : List Ins) (hl : l.length ≤ 1048576) : Fun Tryz.prog 193 [.t (.int n), .rp (.agg [T.Inss l]) 0] (tupD [.t (.bool (!decide (n < l.length)))]) := by
 refine Fun.begin tys Tryz.func193 Z Z (N := 8) [(0, .t (.int n)), (1, .rp (.agg [T.Inss l]) 0)] Z Z (fun w0 G F0 => ?_)
 refine sQ (rG (eZ Z (oN (tN (sQ (rG (eZ Z ?_)))))))
 first | refine ev ?_ | refine WO_loadL tys rfl rfl (lt_of rfl) rfl rfl rfl rfl (getT _ _ (by omega) (by omega)) rfl ?_ | refine WO_loadL tys rfl rfl (lt_of rfl) rfl rfl rfl rfl (getT0 _ _ (by omega) (by omega)) rfl ?_
 refine evE ?_
 refine eK 2 Z (oN (tN (rT (eR ?_))))
 ·exact retB (by grind)
theorem goesOn_fun (c : Code) (hcl : c.ins.length ≤ 1048576) : Fun Tryz.prog 142 [.t (T.Inss c.ins)] (tupD [.t (.bool (goesB c))]) := by
 refine Fun.begin tys Tryz.func142 Z Z (N := 18) [(0, .t (T.Inss c.ins))] Z Z (fun w0 G F0 => ?_)
 refine sQ (rG (WO_box Z Z (lt_of Z) Z Z (nZ Z (eZ Z (oN (tN (sQ (sQ (rG (eZ Z (evE ?_)))))))))))
 refine eZ Z (oN (tN (W_block ?_)))
 refine lK (α := Int) [1, 5, 6] [1] (fun x => [(7, .t (.int x))]) (fun x => []) (fun x => 0 ≤ x ∧ x ≤ c.ins.length ∧ goesB c = goesGo c.ins.length (c.ins.drop x.toNat) x) (fun x => Int.toNat (c.ins.length - x)) 0 ?_ (fun k hx => ?_)
 ·exact ⟨by omega, by omega, rfl⟩
 obtain ⟨hk0, hk1, hk2⟩ := hx
 refine nY Z (sQ (rG (eZ Z (oN (tN (sQ ?_))))))
 refine W_cond Z (fun h1 => ?_) (fun h1 => ?_)
 ·
  try simp only [HS] at h1
  refine W_skip (tN (sQ (W_block (sQ (rG (eZ Z ?_))))))
  first | refine WO_idxT tys rfl rfl (lt_of rfl) rfl rfl rfl rfl rfl rfl rfl (by omega) _ (getT _ _ (by omega) (by omega)) ?_ | refine WO_idxS tys rfl rfl (lt_of rfl) rfl rfl rfl rfl rfl rfl rfl rfl (by omega) (by omega) ?_
  first | (refine ev ?_; try refine WO_le (Le.freeze (u := 11) rfl) ?_) | refine WO_loadL tys rfl rfl (lt_of rfl) rfl rfl rfl rfl (getT _ _ (by omega) (by omega)) rfl ?_ | refine WO_loadL tys rfl rfl (lt_of rfl) rfl rfl rfl rfl (getT0 _ _ (by omega) (by omega)) rfl ?_
  refine nZ Z (WO_alloc tys Z Z (lt_of Z) Z Z Z (nZ Z (eZ Z (sT Z (nZ Z (oN (tN (sQ (kY [1,3,4,5,6,7,8,9,10,11] Z (rG ?_))))))))))
  first | (refine ev ?_; try refine WO_le (Le.freeze (u := 12) rfl) ?_) | refine WO_loadMove tys rfl rfl (lt_of rfl) rfl rfl rfl rfl rfl rfl ?_
  refine nZ Z (eZ Z (WO_callF Z Z (lt_of Z) Z Z Z Z Z (nextOf_fun _ _ (by omega)) Z (eZ Z (callB ?_))))
  refine ⟨_, hasS_fun (nextX (c.ins[k.toNat]'(by omega)) k) (fun n => !decide (n < (c.ins.length : Int))) _ [.rp (.agg [T.Inss c.ins]) 0] Z (by have := nextX_len (c.ins[k.toNat]'(by omega)) k; omega) (fun n _ => goesOn1_fun n c.ins hcl), rfl, ?_⟩
  refine oN (tN ?_)
  refine W_cond Z (fun h2 => ?_) (fun h2 => ?_)
  ·
   try simp only [HS] at h2
   refine sQ (rG (eZ Z (oN (tN (rT (bR (tR (loopQ_r (bR (tR (eR ?_)))))))))))
   ·first
    | exact retB (by rw [hk2, drop_end (by omega)]; rfl)
    | exact retB (by rw [any_notI, Bool.not_eq_true'] at h2; rw [hk2, drop_at hk0 (by omega), goesGo, h2]; rfl)
  try simp only [HS] at h2
  refine W_skip (bN (tN (rG (evI ?_))))
  refine eZ Z (oN ?_)
  refine lQ _ ?_ ?_
  ·try dsimp only
   refine ⟨by omega, by omega, ?_⟩
   rw [any_notI, Bool.not_eq_eq_eq_not, Bool.not_false] at h2
   rw [hk2, drop_at hk0 (by omega), goesGo, h2, Bool.true_and]
  ·(show Int.toNat _ < Int.toNat _); omega
 try simp only [HS] at h1
 refine W_exit (tE (loopQ_e (inBlk_y (tN (sQ (rG (eZ Z (oN (tN (rT (eR ?_)))))))))))
 ·first
  | exact retB (by rw [hk2, drop_end (by omega)]; rfl)
  | exact retB (by rw [any_notI, Bool.not_eq_true'] at h2; rw [hk2, drop_at hk0 (by omega), goesGo, h2]; rfl)
end Go.Proofs.YtimpganophnehaaGreat
