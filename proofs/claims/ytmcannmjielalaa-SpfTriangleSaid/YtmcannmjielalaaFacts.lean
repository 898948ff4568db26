/- What the program's types are, each asked of the loaded program. -/
import Derived.Test.YtmcannmjielalaaAbs27
import Derived.Test.YtmcannmjielalaaProg
import Derived.KernelRfl
namespace Go.Proofs.Ytmcannmjielalaa
namespace A
end A
end Go.Proofs.Ytmcannmjielalaa
