/-
  Stream's CLOSURE: its first loop starts the sources.
-/
import Derived.Test.YtmllcfkgkkbkpaaHvStrH
import Derived.Test.YtmllcfkgkkbkpaaPk2
namespace Go.Proofs.Ytmllcfkgkkbkpaa
open Go Go.Conc Go.RowKit Go.Conc.Lib Go.ConcR.Gen
open Go.ConcN (upd upd_ne upd_same WgLive)
open Go.ConcR (KK wgBlock WgAt stA smA rd wr mk DC0)
theorem ntAdd : Try.f24.ntmps = 117 := by kernel_rfl
theorem app117 (a b : Value) : (#[a, b] : Array Value) ++ Array.replicate (117 - (#[a, b] : Array Value).size) undef = #[a, b, undef, undef, undef, undef, undef, undef, undef, undef, undef, undef, undef, undef, undef, undef, undef, undef, undef, undef, undef, undef, undef, undef, undef, undef, undef, undef, undef, undef, undef, undef, undef, undef, undef, undef, undef, undef, undef, undef, undef, undef, undef, undef, undef, undef, undef, undef, undef, undef, undef, undef, undef, undef, undef, undef, undef, undef, undef, undef, undef, undef, undef, undef, undef, undef, undef, undef, undef, undef, undef, undef, undef, undef, undef, undef, undef, undef, undef, undef, undef, undef, undef, undef, undef, undef, undef, undef, undef, undef, undef, undef, undef, undef, undef, undef, undef, undef, undef, undef, undef, undef, undef, undef, undef, undef, undef, undef, undef, undef, undef, undef, undef, undef, undef, undef, undef] := by
  apply Array.ext'
  simp [List.replicate]
theorem bodyAdd : Try.f24.body = some (body_add wgl) := rfl
section
variable {z z' : Value} {Post : Value → World → Prop} {σ : Ph} {pw : World} {c : Frame} {cs : List Frame}
/-- The group's Add(1), from its entry. -/
theorem strAdd (ht : σ.tag = .opn false) (hF : σ.F σ.Wg) (hn : MV Try.prog wtG z z' Post { σ with tag := .opn true } (G (c.finish (.tuple #[])) cs) pw) :
    MV Try.prog wtG z z' Post σ (G (Frame.enter Try.prog 24 #[.pointer (some ⟨σ.Wg, 0, none⟩), .int .i64 1] .normal) (c :: cs)) pw := by
  have he : Frame.enter Try.prog 24 #[.pointer (some ⟨σ.Wg, 0, none⟩), .int .i64 1] .normal = (base wgl.add).at { tmps := #[.pointer (some ⟨σ.Wg, 0, none⟩), .int .i64 1] ++ Array.replicate (117 - (#[.pointer (some ⟨σ.Wg, 0, none⟩), .int .i64 1] : Array Value).size) undef, defers := [] } [.code (body_add wgl)] := by
    rw [← ntAdd]
    simp [Frame.enter, Frame.at, Try.func24, bodyAdd]
    exact ⟨rfl, rfl⟩
  rw [he, app117]
  exact mv_add wgLib ht hF (fun w hl => addPosX (P := Try.prog) (L := wgl) wgLib (fun _ _ r => r.2) (fun _ _ => rfl) w hl) hn
end
/-- The phase while the sources are being started. -/
structure Ph1 (σ0 : Ph) (w0 : World) (lists : List (List Value)) (j : Nat) (σ : Ph) (w : World) : Prop where
  first : σ.first = σ0.first
  n : σ.n = j
  wg : σ.Wg = σ0.Wg
  quit : σ.quit = σ0.quit
  closed : σ.closed = false
  tag : σ.tag = .opn false
  d0 : σ.d0 = 0
  room : σ.room + j = σ0.room
  sw : σ.SW = σ0.SW
  lay : ∀ x o, σ0.lay x = some o → σ.lay x = some o
  rem : ∀ i items, i < j → lists[i]? = some items → σ.rem (σ0.first + i) = items
  f0 : ∀ x, σ0.F x → σ.F x
  fb : ∀ x, σ.F x → Try.prog.globals.size ≤ x ∧ x < w.heap.size
  layb : ∀ x, (σ.lay x).isSome = true → x < w.heap.size
  low : ∀ x, x < w0.heap.size → w.heap[x]? = w0.heap[x]?
  size : w0.heap.size ≤ w.heap.size
  os : w.os = w0.os
  output : w.output = w0.output
  f1 : ∀ x, σ.F x → σ0.F x ∨ w0.heap.size ≤ x
  layF : ∀ x, (σ.lay x).isSome = true → σ.F x
  al : σ.al = σ0.al
/-- The lists to be merged, as the closure finds them. -/
structure OwnAt (σ : Ph) (w : World) (ao : Option Addr) (N : Nat) (lists : List (List Value)) : Prop where
  len : lists.length = N
  small : N < 1000000
  row : ∀ i items, lists[i]? = some items → ∃ ad a0 n c, ao = some ad ∧ ad.block < w.heap.size ∧ w.cell? (ad.add i) = some (.slice a0 n c) ∧ ItemsAt σ a0 n items
theorem ItemsAt.mono {σ σ' : Ph} {a0 : Option Addr} {n : Nat} {items : List Value} (h : ItemsAt σ a0 n items) (hl : ∀ x o, σ.lay x = some o → σ'.lay x = some o) (hs : σ'.SW = σ.SW) : ItemsAt σ' a0 n items :=
  ⟨h.len, h.small, h.nil, fun ad h1 h2 => let ⟨ob, h3, h4, h5⟩ := h.row ad h1 h2; ⟨ob, hl _ _ h3, by rw [hs]; exact h4, h5⟩⟩
theorem srcEnd_size {P : Program} {w : World} {iv : Value} {q Wg : Nat} : (srcEnd P w iv q Wg).heap.size = w.heap.size + 5 := by
  simp only [srcEnd, killW_size, srcW_size]
theorem srcW_low {w : World} {iv q d : Value} {x : Nat} (h : x < w.heap.size) : (srcW w iv q d).heap[x]? = w.heap[x]? := by
  unfold srcW
  rw [alloc_other (by simp only [World.size_alloc]; omega), alloc_other (by simp only [World.size_alloc]; omega), alloc_other (by simp only [World.size_alloc]; omega), alloc_other (by simp only [World.size_alloc]; omega), alloc_other h]
theorem srcEnd_low {P : Program} {w : World} {iv : Value} {q Wg x : Nat} (h : x < w.heap.size) : (srcEnd P w iv q Wg).heap[x]? = w.heap[x]? := by
  unfold srcEnd
  rw [kill_ne (by omega), kill_ne (by omega), kill_ne (by omega), kill_ne (by omega), kill_ne (by omega), srcW_low h]
theorem killW_os {P : Program} {w : World} {b : Nat} : (killW P w b).os = w.os := rfl
theorem killW_out {P : Program} {w : World} {b : Nat} : (killW P w b).output = w.output := rfl
theorem alloc_os {w : World} {o : Obj} : (w.alloc o).os = w.os := rfl
theorem alloc_out {w : World} {o : Obj} : (w.alloc o).output = w.output := rfl
theorem srcEnd_os {P : Program} {w : World} {iv : Value} {q Wg : Nat} : (srcEnd P w iv q Wg).os = w.os := by
  simp only [srcEnd, killW_os, srcW, alloc_os]
theorem srcEnd_out {P : Program} {w : World} {iv : Value} {q Wg : Nat} : (srcEnd P w iv q Wg).output = w.output := by
  simp only [srcEnd, killW_out, srcW, alloc_out]
theorem owns_keep {w w' : World} {base : Nat} {e : TypeId} {size n : Nat} {v : Value} {xs : List Value} (h : w.ownsRow base e size v n xs) (hk : ∀ g, g < w.heap.size → v.ownBlock = some g → w'.heap[g]? = w.heap[g]?) : w'.ownsRow base e size v n xs := by
  refine ⟨h.1, h.2.imp id ?_⟩
  rintro ⟨g, cap, cur, rfl, hb, hg, hr⟩
  exact ⟨g, cap, cur, rfl, hb, (hk g (Array.getElem?_eq_some_iff.1 hg).1 rfl).trans hg, hr⟩
/-- The call of a Go function, as an operation. -/
theorem run_enterOp {P : Program} {a : Act} {o : Oper} {f : FuncId} {fn : Func} {cc : Code} {xs : Array Operand} {ats : Array TypeId} (hop : o.op = .call { callee := .value (.func f), args := xs, argTypes := ats }) (hf : P.funcs[f]? = some fn) (hname : (fn.name == "runtime.NumGoroutine") = false) (hb : fn.body = some cc) (w : World) :
    (execOp a.eval o).run P w = .ok (.enter f (xs.map a.eval)) w ∧ (execOp a.eval o).events P w #[] = #[] := by
  have h1 : ¬ fn.name = "runtime.NumGoroutine" := by simpa using hname
  have hv : a.eval (.func f) = .func (.func f) #[] #[] := rfl
  constructor <;> (unfold execOp; simp [hop, resolve, Deferred.ofValue, invoke, callFunc, hf, h1, hb, go_sem])
theorem nmAdd : (Try.f24.name == "runtime.NumGoroutine") = false := by kernel_rfl
theorem nmSrc : (Try.f25.name == "runtime.NumGoroutine") = false := by kernel_rfl
noncomputable def loopT1 : Code := match blockT1 with
  | .block _ (.loop c) => c
  | _ => .skip
abbrev tC : TypeId := 61
/-- At the head of the first loop, j sources started. -/
def Inv1 (σ0 : Ph) (w0 : World) (l bo bp : Nat) (ao : Option Addr) (N cap : Nat) (lists : List (List Value)) (j : Nat) (a : Act) (σ : Ph) (w : World) : Prop :=
  ∃ (T : Array Value) (c6 c7 : Value), a = ⟨T, [dCloseA #[58] σ0.quit, dcall 23 #[.pointer (some ⟨σ0.Wg, 0, none⟩)]]⟩ ∧ T.size = 75 ∧
    T[0]? = some (.func (.yield l) #[] #[]) ∧ T[1]? = some (.pointer (some ⟨bo, 0, none⟩)) ∧ T[2]? = some (.pointer (some ⟨bp, 0, none⟩)) ∧ T[4]? = some (.pointer (some ⟨σ0.Wg, 0, none⟩)) ∧ T[5]? = some (.chan (some σ0.quit)) ∧
    T[6]? = some c6 ∧ T[7]? = some c7 ∧ T[17]? = some (.slice ao N cap) ∧ T[18]? = some (.int .i64 N) ∧ T[19]? = some (.int .i64 j) ∧
    w.ownsRow w0.heap.size tC 1 c6 j ((List.range j).map fun i => .chan (some (σ.ch (σ0.first + i)))) ∧ w.ownsRow w0.heap.size 3 1 c7 j ((lists.take j).map fun x => .int .i64 x.length) ∧ Ph1 σ0 w0 lists j σ w
section
variable {σ σ0 : Ph} {pw w0 w w' : World} {lists : List (List Value)} {j : Nat}
theorem Ph1.world (h : Ph1 σ0 w0 lists j σ w) (hl : ∀ x, x < w0.heap.size → w'.heap[x]? = w.heap[x]?) (hs : w.heap.size ≤ w'.heap.size) (ho : w'.os = w.os) (hu : w'.output = w.output) : Ph1 σ0 w0 lists j σ w' :=
  ⟨h.first, h.n, h.wg, h.quit, h.closed, h.tag, h.d0, h.room, h.sw, h.lay, h.rem, h.f0, fun x hx => ⟨(h.fb x hx).1, by have := (h.fb x hx).2; omega⟩, fun x hx => by have := h.layb x hx; omega, fun x hx => (hl x hx).trans (h.low x hx), by have := h.size; omega, ho.trans h.os, hu.trans h.output, h.f1, h.layF, h.al⟩
theorem srcF_lay2 {s : Nat} {iv : Value} {x : Nat} (h : ((srcF σ s iv).lay x).isSome = true) : (σ.lay x).isSome = true ∨ x = s ∨ x = s + 1 ∨ x = s + 2 ∨ x = s + 4 := by
  rcases lay_freeze h with e | h
  · exact .inr (.inr (.inr (.inr e)))
  rcases lay_freeze h with e | h
  · exact .inr (.inr (.inr (.inl e)))
  rcases lay_freeze h with e | h
  · exact .inr (.inr (.inl e))
  rcases lay_freeze h with e | h
  · exact .inr (.inl e)
  · exact .inl h
theorem ph1_src {iv : Value} {items : List Value} (hp : Ph1 σ0 w0 lists j σ pw) (hit : lists[j]? = some items) (hgs : Try.prog.globals.size ≤ pw.heap.size) (hr : 1 ≤ σ.room) : Ph1 σ0 w0 lists (j + 1) (srcPh { σ with tag := .opn true } pw.heap.size iv items (σ.room - 1)) (srcEnd Try.prog pw iv σ.quit σ.Wg) := by
  refine ⟨hp.first, ?_, hp.wg, hp.quit, hp.closed, rfl, hp.d0, ?_, hp.sw, fun x o hx => ?_, fun i it hi hl => ?_, fun x hx => ?_, fun x hx => ?_, fun x hx => ?_, fun x hx => ?_, ?_, srcEnd_os.trans hp.os, srcEnd_out.trans hp.output, fun x hx => ?_, fun x hx => ?_, hp.al⟩
  · show σ.n + 1 = j + 1
    rw [hp.n]
  · show σ.room - 1 + (j + 1) = _
    have := hp.room
    omega
  · have h1 := hp.lay x o hx
    have h2 : x < pw.heap.size := hp.layb x (by rw [h1]; rfl)
    exact ((srcF_lay (σ := { σ with tag := .opn true }) (s := pw.heap.size) (iv := iv)).2.2.2.2 x h2).trans h1
  · show upd σ.rem (σ.first + σ.n) items (σ0.first + i) = it
    by_cases e : i = j
    · subst e
      rw [hp.first, hp.n, upd_same]
      rw [hit] at hl
      exact Option.some.inj hl
    · rw [hp.first, hp.n, upd_ne _ _ (by omega)]
      exact hp.rem i it (by omega) hl
  · exact .inl (.inl (.inl (.inl (.inl (hp.f0 x hx)))))
  · rw [srcEnd_size]
    rcases hx with ((((hx | hx) | hx) | hx) | hx) | hx
    · have := hp.fb x hx
      exact ⟨this.1, by omega⟩
    all_goals exact ⟨by omega, by omega⟩
  · rw [srcEnd_size]
    rcases srcF_lay2 (σ := { σ with tag := .opn true }) (s := pw.heap.size) (iv := iv) hx with h | h | h | h | h
    · have := hp.layb x h
      omega
    all_goals omega
  · have := hp.size
    rw [srcEnd_low (by omega)]
    exact hp.low x hx
  · rw [srcEnd_size]
    have := hp.size
    omega
  · have := hp.size
    rcases hx with ((((hx | hx) | hx) | hx) | hx) | hx
    · exact hp.f1 x hx
    all_goals exact .inr (by omega)
  · rcases srcF_lay2 (σ := { σ with tag := .opn true }) (s := pw.heap.size) (iv := iv) hx with h | h | h | h | h
    · exact .inl (.inl (.inl (.inl (.inl (hp.layF x h)))))
    · exact .inl (.inl (.inl (.inl (.inr h))))
    · exact .inl (.inl (.inl (.inr h)))
    · exact .inl (.inl (.inr h))
    · exact .inl (.inr h)
end
end Go.Proofs.Ytmllcfkgkkbkpaa
