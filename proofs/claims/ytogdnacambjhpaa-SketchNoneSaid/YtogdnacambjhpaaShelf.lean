/- At this program the shelf has nothing to lay: this text only brings the library's plain modules on which the seat's other texts lean. -/
import Derived.Calls
import Derived.KernelRfl
import Derived.Laws.Externs
import Derived.Laws.Entries
import GoSem.Extern.Twins
import Derived.Test.YtogdnacambjhpaaProg
